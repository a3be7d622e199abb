import Derived.Test.YtlmcoiloepoggaaQT0
import Derived.Test.YtlmcoiloepoggaaQG
import Derived.Test.YtlmcoiloepoggaaTb2
namespace Go.Proofs.Ytlmcoiloepoggaa
open Go Go.Wk
set_option maxHeartbeats 1600000
set_option maxRecDepth 10000
structure A2 where
  a : UInt8
  b : UInt8
instance : En A2 := ⟨fun x => [.int .u8 x.a.toNat, .int .u8 x.b.toNat], 2, fun _ => rfl, fun _ => rfl, by decide⟩
structure Two where
  l : SV
  acts : SV
instance : En Two := ⟨fun x => [x.l.v, x.acts.v], 2, fun _ => rfl, fun _ => rfl, by decide⟩
theorem calm_all {t : Tb} {j : Nat} (hj : j < t.d.length) : let c := t.free.calm t.d.length; (c.at j).state = 3 ∧ (c.at j).prio = 7 ∧ (c.at j).parked = false := by
  have hl : t.free.d.length = t.d.length := freeTo_len t _
  obtain ⟨_, _, h3, h4⟩ := calm_spec t.free t.d.length (by omega)
  have h5 := h4 j hj
  exact ⟨h5.1, h5.2, (h3 j).trans (freeTo_parked t _ (Nat.le_refl _) j hj)⟩
theorem wrap_byte (n : UInt8) : IntKind.i64.wrap (n.toNat : Int) = n.toNat := wrap_id (by omega) (by have := n.toNat_lt; omega)
theorem tmod_nat (a b : Nat) : Int.tmod (a : Int) (b : Int) = ((a % b : Nat) : Int) := by rw [Int.tmod_eq_emod_of_nonneg (by omega)]; rfl
theorem set_len {t : Tb} {k s : Int} : (t.set k s).d.length = t.d.length := by unfold Tb.set; split <;> simp [Tb.put]
attribute [local irreducible] GenK EGenK EUnitK CallK FnK CallV GuardO GuardC CondW opX opK opKc chkR eqR seqK blkK endL WL WD W LoopW BinK Tr drewK resL PickK NotK NilK ExtrK getK Instr.storeAt Instr.loadAt Instr.fieldAt Instr.indexAt Instr.lookup Instr.mapUpdate Instr.box Instr.alloc Instr.build Instr.buildSlice Instr.makeSlice Instr.makeMap Instr.sliceAt Instr.field Instr.index Instr.makeInterface Instr.typeAssert Builtin.len_ Builtin.append_ Builtin.cap_ Builtin.min_ Builtin.max_ Builtin.copy_ Builtin.clear_ convert binOp mp blk rob sl sep ex fact old
attribute [local irreducible] tabA refA
theorem turns21_ok {s1 s2 : SV} {l : List PConf} {acts : List ActP} {at2 : A2} : Trip Try.prog 4 [.agg (En.enc (Two.mk s1 s2)).toArray, .agg (En.enc at2).toArray].toArray [sl true s1.v l, sl true s2.v acts]
    fun v l' => v = .bool true ∧ l' = [sl true s1.v l, sl true s2.v acts] := by
  intro F K hK
  simp only [List.cons_append, List.nil_append]
  have hnl : (Tb.new l).d.length ≤ 8 := by simp [Tb.new]; omega
  refine Tr.enter (rs := [.tmp 4]) mixed fn4 rfl (by simp +arith [Try.ntmps4]) fun u => ?_
  simp only [cd4, Try.f4]
  ((try simp only [WKb, ↓reduceIte, Nat.reduceEqDiff, Nat.reduceAdd]) <;> (repeat' ((first
    | (refine G.load ?_; first | refine A.ldW (by rfl) ?_ | refine A.ld1 (by rfl) ?_ | refine A.ldN (by rfl) (by rfl) ?_ | refine A.lS0 (by assumption) (by rfl) ?_ | refine A.lS1 (by assumption) (by rfl) ?_ | refine A.lSW (by assumption) (by rfl) ?_ | refine A.lSN (by assumption) (by rfl) (by rfl) ?_)
    | refine Tr.drewK ?_
    | refine Tr.eqR rfl ?_
    | refine Tr.box rfl fun _ => ?_
    | refine Tr.alloc rfl fun _ => ?_
    | refine Tr.build rfl ?_
    | (refine G.store ?_; first | refine A.stW (by rfl) (by rfl) (by rfl) (by rfl) ?_ | refine A.st (by rfl) (by rfl) (by rfl) (by first | exact Nat.le_of_ble_eq_true rfl | (simp only [WKl, setL_length, En.len]; omega)) ?_ | refine A.stE (by rfl) (by first | omega | assumption | (simp only [WKl]; omega)) (by first | omega | assumption | (simp only [WKl]; omega)) ?_)
    | (refine G.cond ?_; first | refine Tr.condT (by first | rfl | assumption | (simp only [WKs]; omega)) ?_ | refine Tr.condF (by first | rfl | assumption | (simp only [WKs]; omega)) ?_ | (refine Tr.condS (fun hb => ?_) (fun hb => ?_) <;> ((try simp only [hb]) <;> (try (have hp := hb; simp only [WKs] at hp; (try have hq := Int.not_le.2 hp); (try have hq := Int.not_lt.2 hp))))))
    | (refine G.guard ?_; first | (refine Tr.guardTT (by first | rfl | assumption | (simp only [WKs]; omega)) (fun hb => ?_) <;> (try simp only [hb])) | (refine Tr.guardFF (by first | rfl | assumption | (simp only [WKs]; omega)) (fun hb => ?_) <;> (try simp only [hb])) | (refine Tr.guardS (fun hb => ?_) (fun hb => ?_) <;> ((try simp only [hb]) <;> (try (have hp := hb; simp only [WKs] at hp; (try have hq := Int.not_le.2 hp); (try have hq := Int.not_lt.2 hp))))))
    | (refine G.guardC ?_; refine Tr.guardCS (fun hb => ?_) (fun hb => ?_) <;> ((try simp only [hb]) <;> (try (have hp := hb; simp only [WKs] at hp; (try have hq := Int.not_le.2 hp); (try have hq := Int.not_lt.2 hp)))))
    | (refine G.idx ?_; first | refine Tr.indexArr (by omega) (by omega) ?_ | refine A.idx (by rfl) (by first | omega | assumption | (simp only [WKl]; omega)) (by first | omega | assumption | (simp only [WKl]; omega)) fun hix => ?_)
    | (refine G.len ?_; first | refine A.len ?_ | refine A.lenM ?_ | refine Tr.lenMapNil ?_)
    | (refine G.call 20 ?_; apply Tr.callC ?_ (new_ok _ _) ?_)
    | (refine G.call 21 ?_; apply Tr.callC ?_ (rnew_ok _ _) ?_)
    | (refine G.call 22 ?_; apply Tr.callC ?_ (done21_ok ?_) ?_)
    | (refine G.call 23 ?_; refine Tr.callC (by (repeat (first | exact TakeL.nil | (apply TakeL.cons; focus ((first | ((repeat (first | with_reducible exact TakeA.here | with_reducible apply TakeA.next)); done) | ((repeat (first | exact TakeA.here | apply TakeA.next)); done)))) | fail)); done) (len0n_ok) ?_)
    | (refine G.call 23 ?_; refine Tr.callC (by (repeat (first | exact TakeL.nil | (apply TakeL.cons; focus ((first | ((repeat (first | with_reducible exact TakeA.here | with_reducible apply TakeA.next)); done) | ((repeat (first | exact TakeA.here | apply TakeA.next)); done)))) | fail)); done) (len0e_ok) ?_)
    | (refine G.call 23 ?_; apply Tr.callC ?_ (len_ok _ _) ?_)
    | (refine G.call 24 ?_; apply Tr.callC ?_ (works21_ok) ?_)
    | (refine G.call 25 ?_; refine Tr.callC (by (repeat (first | exact TakeL.nil | (apply TakeL.cons; focus ((first | ((repeat (first | with_reducible exact TakeA.here | with_reducible apply TakeA.next)); done) | ((repeat (first | exact TakeA.here | apply TakeA.next)); done)))) | fail)); done) (free0n_ok) ?_)
    | (refine G.call 25 ?_; refine Tr.callC (by (repeat (first | exact TakeL.nil | (apply TakeL.cons; focus ((first | ((repeat (first | with_reducible exact TakeA.here | with_reducible apply TakeA.next)); done) | ((repeat (first | exact TakeA.here | apply TakeA.next)); done)))) | fail)); done) (free0e_ok) ?_)
    | (refine G.call 25 ?_; apply Tr.callC ?_ (free_ok _ _ ?_) ?_)
    | (refine G.call 26 ?_; refine Tr.callC (by (repeat (first | exact TakeL.nil | (apply TakeL.cons; focus ((first | ((repeat (first | with_reducible exact TakeA.here | with_reducible apply TakeA.next)); done) | ((repeat (first | exact TakeA.here | apply TakeA.next)); done)))) | fail)); done) (set0n_ok) ?_)
    | (refine G.call 26 ?_; refine Tr.callC (by (repeat (first | exact TakeL.nil | (apply TakeL.cons; focus ((first | ((repeat (first | with_reducible exact TakeA.here | with_reducible apply TakeA.next)); done) | ((repeat (first | exact TakeA.here | apply TakeA.next)); done)))) | fail)); done) (set0e_ok) ?_)
    | (refine G.call 26 ?_; apply Tr.callC ?_ (set_ok _ _ _ _) ?_)
    | (refine G.call 27 ?_; refine Tr.callC (by (repeat (first | exact TakeL.nil | (apply TakeL.cons; focus ((first | ((repeat (first | with_reducible exact TakeA.here | with_reducible apply TakeA.next)); done) | ((repeat (first | exact TakeA.here | apply TakeA.next)); done)))) | fail)); done) (rank0n_ok) ?_)
    | (refine G.call 27 ?_; refine Tr.callC (by (repeat (first | exact TakeL.nil | (apply TakeL.cons; focus ((first | ((repeat (first | with_reducible exact TakeA.here | with_reducible apply TakeA.next)); done) | ((repeat (first | exact TakeA.here | apply TakeA.next)); done)))) | fail)); done) (rank0e_ok) ?_)
    | (refine G.call 27 ?_; apply Tr.callC ?_ (rank_ok _ _ _ _) ?_)
    | (refine G.call 28 ?_; refine Tr.callC (by (repeat (first | exact TakeL.nil | (apply TakeL.cons; focus ((first | ((repeat (first | with_reducible exact TakeA.here | with_reducible apply TakeA.next)); done) | ((repeat (first | exact TakeA.here | apply TakeA.next)); done)))) | fail)); done) (pick0n_ok) ?_)
    | (refine G.call 28 ?_; refine Tr.callC (by (repeat (first | exact TakeL.nil | (apply TakeL.cons; focus ((first | ((repeat (first | with_reducible exact TakeA.here | with_reducible apply TakeA.next)); done) | ((repeat (first | exact TakeA.here | apply TakeA.next)); done)))) | fail)); done) (pick0e_ok) ?_)
    | (refine G.call 28 ?_; apply Tr.callC ?_ (pick_ok _ _ ?_) ?_)
    | with_reducible exact TakeL.nil
    | with_reducible apply TakeL.cons
    | rintro _ _ ⟨rfl, rfl⟩
    | rintro _ _ ⟨_, rfl, rfl⟩
    | (refine G.app ?_; first | refine A.app0 (by rfl) (by decide) (by first | omega | assumption | (simp only [WKl]; omega)) fun _ => ?_ | refine A.app (by rfl) (by decide) (by first | omega | assumption | (simp only [WKl]; omega)) fun _ => ?_)
    | (refine G.bs ?_; first | refine Tr.buildNil rfl fun _ => ?_ | refine Tr.build1 _ rfl rfl (by decide) fun _ => ?_)
    | (refine G.cut ?_; refine A.cutTo (by rfl) (by omega) (by omega) fun _ => ?_)
    | (refine G.look ?_; first | refine A.look ?_ | refine Tr.lookupNil ?_)
    | (refine G.mapu ?_; refine A.mapu ?_)
    | refine Tr.makeMap fun _ => ?_
    | (refine G.rem ?_; refine Tr.rem (by omega) ?_)
    | (refine G.prop ?_; first | omega | assumption | exact Nat.le_of_ble_eq_true rfl)
    | ((apply G.take; first | ((repeat (first | with_reducible exact TakeA.here | with_reducible apply TakeA.next)); done) | ((repeat (first | exact TakeA.here | apply TakeA.next)); done)))) <;> (try simp only [WKb, ↓reduceIte, Nat.reduceEqDiff, pl4]))))
  rename_i a b
  refine Tr.loopE (α := Nat × Tb) [11] [4, 6, 7, 8, 9, 10] (fun x => [.int .i64 x.1]) (fun x => [tabA a x.2, refA b x.2, sl true s1.v l, sl true s2.v acts]) (fun x => x.1 ≤ 60 ∧ x.2.d.length ≤ 8 ∧ x.2.mild (8 * x.1)) (fun x => 60 - x.1) (0, Tb.new l) (by (repeat (first | exact TakeL.nil | apply TakeL.cons (by (repeat (first | exact TakeA.here | apply TakeA.next)); done))); done) rfl ⟨by simp, hnl, by simp [Tb.mild, Tb.new]⟩ fun x u hx => ?_
  obtain ⟨k, t⟩ := x
  simp only at hx ⊢
  obtain ⟨hk, htl, htm⟩ := hx
  have hw := wrap_succ (k := k) (by omega)
  have hal := act_len t (ix acts (k : Int))
  have ham : (t.act (ix acts (k : Int))).mild (8 * (k + 1)) := mild_mono (mild_act htm (by omega) htl _) (by omega)
  ((try simp only [WKb, ↓reduceIte, Nat.reduceEqDiff]) <;> (repeat' ((first
    | (refine G.load ?_; first | refine A.ldW (by rfl) ?_ | refine A.ld1 (by rfl) ?_ | refine A.ldN (by rfl) (by rfl) ?_ | refine A.lS0 (by assumption) (by rfl) ?_ | refine A.lS1 (by assumption) (by rfl) ?_ | refine A.lSW (by assumption) (by rfl) ?_ | refine A.lSN (by assumption) (by rfl) (by rfl) ?_)
    | refine Tr.drewK ?_
    | refine Tr.eqR rfl ?_
    | refine Tr.box rfl fun _ => ?_
    | refine Tr.alloc rfl fun _ => ?_
    | refine Tr.build rfl ?_
    | (refine G.store ?_; first | refine A.stW (by rfl) (by rfl) (by rfl) (by rfl) ?_ | refine A.st (by rfl) (by rfl) (by rfl) (by first | exact Nat.le_of_ble_eq_true rfl | (simp only [WKl, setL_length, En.len]; omega)) ?_ | refine A.stE (by rfl) (by first | omega | assumption | (simp only [WKl]; omega)) (by first | omega | assumption | (simp only [WKl]; omega)) ?_)
    | (refine G.cond ?_; first | refine Tr.condT (by first | rfl | assumption | (simp only [WKs]; omega)) ?_ | refine Tr.condF (by first | rfl | assumption | (simp only [WKs]; omega)) ?_ | (refine Tr.condS (fun hb => ?_) (fun hb => ?_) <;> ((try simp only [hb]) <;> (try (have hp := hb; simp only [WKs] at hp; (try have hq := Int.not_le.2 hp); (try have hq := Int.not_lt.2 hp))))))
    | (refine G.guard ?_; first | (refine Tr.guardTT (by first | rfl | assumption | (simp only [WKs]; omega)) (fun hb => ?_) <;> (try simp only [hb])) | (refine Tr.guardFF (by first | rfl | assumption | (simp only [WKs]; omega)) (fun hb => ?_) <;> (try simp only [hb])) | (refine Tr.guardS (fun hb => ?_) (fun hb => ?_) <;> ((try simp only [hb]) <;> (try (have hp := hb; simp only [WKs] at hp; (try have hq := Int.not_le.2 hp); (try have hq := Int.not_lt.2 hp))))))
    | (refine G.guardC ?_; refine Tr.guardCS (fun hb => ?_) (fun hb => ?_) <;> ((try simp only [hb]) <;> (try (have hp := hb; simp only [WKs] at hp; (try have hq := Int.not_le.2 hp); (try have hq := Int.not_lt.2 hp)))))
    | (refine G.idx ?_; first | refine Tr.indexArr (by omega) (by omega) ?_ | refine A.idx (by rfl) (by first | omega | assumption | (simp only [WKl]; omega)) (by first | omega | assumption | (simp only [WKl]; omega)) fun hix => ?_)
    | (refine G.len ?_; first | refine A.len ?_ | refine A.lenM ?_ | refine Tr.lenMapNil ?_)
    | (refine G.call 20 ?_; apply Tr.callC ?_ (new_ok _ _) ?_)
    | (refine G.call 21 ?_; apply Tr.callC ?_ (rnew_ok _ _) ?_)
    | (refine G.call 22 ?_; apply Tr.callC ?_ (done21_ok ?_) ?_)
    | (refine G.call 23 ?_; refine Tr.callC (by (repeat (first | exact TakeL.nil | (apply TakeL.cons; focus ((first | ((repeat (first | with_reducible exact TakeA.here | with_reducible apply TakeA.next)); done) | ((repeat (first | exact TakeA.here | apply TakeA.next)); done)))) | fail)); done) (len0n_ok) ?_)
    | (refine G.call 23 ?_; refine Tr.callC (by (repeat (first | exact TakeL.nil | (apply TakeL.cons; focus ((first | ((repeat (first | with_reducible exact TakeA.here | with_reducible apply TakeA.next)); done) | ((repeat (first | exact TakeA.here | apply TakeA.next)); done)))) | fail)); done) (len0e_ok) ?_)
    | (refine G.call 23 ?_; apply Tr.callC ?_ (len_ok _ _) ?_)
    | (refine G.call 24 ?_; apply Tr.callC ?_ (works21_ok) ?_)
    | (refine G.call 25 ?_; refine Tr.callC (by (repeat (first | exact TakeL.nil | (apply TakeL.cons; focus ((first | ((repeat (first | with_reducible exact TakeA.here | with_reducible apply TakeA.next)); done) | ((repeat (first | exact TakeA.here | apply TakeA.next)); done)))) | fail)); done) (free0n_ok) ?_)
    | (refine G.call 25 ?_; refine Tr.callC (by (repeat (first | exact TakeL.nil | (apply TakeL.cons; focus ((first | ((repeat (first | with_reducible exact TakeA.here | with_reducible apply TakeA.next)); done) | ((repeat (first | exact TakeA.here | apply TakeA.next)); done)))) | fail)); done) (free0e_ok) ?_)
    | (refine G.call 25 ?_; apply Tr.callC ?_ (free_ok _ _ ?_) ?_)
    | (refine G.call 26 ?_; refine Tr.callC (by (repeat (first | exact TakeL.nil | (apply TakeL.cons; focus ((first | ((repeat (first | with_reducible exact TakeA.here | with_reducible apply TakeA.next)); done) | ((repeat (first | exact TakeA.here | apply TakeA.next)); done)))) | fail)); done) (set0n_ok) ?_)
    | (refine G.call 26 ?_; refine Tr.callC (by (repeat (first | exact TakeL.nil | (apply TakeL.cons; focus ((first | ((repeat (first | with_reducible exact TakeA.here | with_reducible apply TakeA.next)); done) | ((repeat (first | exact TakeA.here | apply TakeA.next)); done)))) | fail)); done) (set0e_ok) ?_)
    | (refine G.call 26 ?_; apply Tr.callC ?_ (set_ok _ _ _ _) ?_)
    | (refine G.call 27 ?_; refine Tr.callC (by (repeat (first | exact TakeL.nil | (apply TakeL.cons; focus ((first | ((repeat (first | with_reducible exact TakeA.here | with_reducible apply TakeA.next)); done) | ((repeat (first | exact TakeA.here | apply TakeA.next)); done)))) | fail)); done) (rank0n_ok) ?_)
    | (refine G.call 27 ?_; refine Tr.callC (by (repeat (first | exact TakeL.nil | (apply TakeL.cons; focus ((first | ((repeat (first | with_reducible exact TakeA.here | with_reducible apply TakeA.next)); done) | ((repeat (first | exact TakeA.here | apply TakeA.next)); done)))) | fail)); done) (rank0e_ok) ?_)
    | (refine G.call 27 ?_; apply Tr.callC ?_ (rank_ok _ _ _ _) ?_)
    | (refine G.call 28 ?_; refine Tr.callC (by (repeat (first | exact TakeL.nil | (apply TakeL.cons; focus ((first | ((repeat (first | with_reducible exact TakeA.here | with_reducible apply TakeA.next)); done) | ((repeat (first | exact TakeA.here | apply TakeA.next)); done)))) | fail)); done) (pick0n_ok) ?_)
    | (refine G.call 28 ?_; refine Tr.callC (by (repeat (first | exact TakeL.nil | (apply TakeL.cons; focus ((first | ((repeat (first | with_reducible exact TakeA.here | with_reducible apply TakeA.next)); done) | ((repeat (first | exact TakeA.here | apply TakeA.next)); done)))) | fail)); done) (pick0e_ok) ?_)
    | (refine G.call 28 ?_; apply Tr.callC ?_ (pick_ok _ _ ?_) ?_)
    | with_reducible exact TakeL.nil
    | with_reducible apply TakeL.cons
    | rintro _ _ ⟨rfl, rfl⟩
    | rintro _ _ ⟨_, rfl, rfl⟩
    | (refine G.app ?_; first | refine A.app0 (by rfl) (by decide) (by first | omega | assumption | (simp only [WKl]; omega)) fun _ => ?_ | refine A.app (by rfl) (by decide) (by first | omega | assumption | (simp only [WKl]; omega)) fun _ => ?_)
    | (refine G.bs ?_; first | refine Tr.buildNil rfl fun _ => ?_ | refine Tr.build1 _ rfl rfl (by decide) fun _ => ?_)
    | (refine G.cut ?_; refine A.cutTo (by rfl) (by omega) (by omega) fun _ => ?_)
    | (refine G.look ?_; first | refine A.look ?_ | refine Tr.lookupNil ?_)
    | (refine G.mapu ?_; refine A.mapu ?_)
    | refine Tr.makeMap fun _ => ?_
    | (refine G.rem ?_; refine Tr.rem (by omega) ?_)
    | (refine G.prop ?_; first | omega | assumption | exact Nat.le_of_ble_eq_true rfl)
    | ((apply G.take; first | ((repeat (first | with_reducible exact TakeA.here | with_reducible apply TakeA.next)); done) | ((repeat (first | exact TakeA.here | apply TakeA.next)); done)))) <;> (try simp only [WKb, ↓reduceIte, Nat.reduceEqDiff, hw]))))
  · (apply Tr.againE (k + 1, t.act (ix acts (k : Int))); (focus (simp only [WKb, ↓reduceIte, Nat.reduceEqDiff])); (focus ((try simp only [WKb, ↓reduceIte]); (all_goals ((repeat (refine cons_eq (by first | rfl | (simp [*]; done)) ?_)); rfl)); done)); (focus (first | omega | assumption | (simp only []; omega) | (refine ⟨by omega, by assumption⟩) | (simp only []; refine ⟨by omega, by assumption⟩) | ((try simp only []); (repeat' (first | omega | assumption | refine And.intro ?_ ?_)); done))); (focus (first | omega | (simp only []; omega))); (focus (((try clear hK) <;> (try simp only [WKe, *]) <;> repeat (first
    | with_reducible exact EntR.done
    | (apply EntR.take; focus (first | ((repeat (first | with_reducible exact TakeA.here | with_reducible apply TakeA.next)); done) | ((repeat (first | exact TakeA.here | apply TakeA.next)); done)))
    | with_reducible refine EntR.sep ?_
    | with_reducible apply EntR.ex
    | with_reducible refine EntR.fact (by first | rfl | assumption | omega | simp) ?_
    | refine EntR.drop (F := F) ?_
    | refine EntR.drop ?_)))))
  all_goals
    refine refA_open (by (repeat (first | exact TakeA.here | apply TakeA.next)); done) fun s => ?_
    by_cases hn0 : t.d.length = 0
    · have hdn : decide ((t.d.length : Int) = 0) = true := by simp [hn0]
      ((try simp only [WKb, ↓reduceIte, Nat.reduceEqDiff, Nat.reduceAdd, Nat.reduceSub, Int.reduceEq, Int.reduceLT, Int.reduceLE, pl4, hdn]) <;> (repeat' ((first
    | (refine G.load ?_; first | refine A.ldW (by rfl) ?_ | refine A.ld1 (by rfl) ?_ | refine A.ldN (by rfl) (by rfl) ?_ | refine A.lS0 (by assumption) (by rfl) ?_ | refine A.lS1 (by assumption) (by rfl) ?_ | refine A.lSW (by assumption) (by rfl) ?_ | refine A.lSN (by assumption) (by rfl) (by rfl) ?_)
    | refine Tr.drewK ?_
    | refine Tr.eqR rfl ?_
    | refine Tr.box rfl fun _ => ?_
    | refine Tr.alloc rfl fun _ => ?_
    | refine Tr.build rfl ?_
    | (refine G.store ?_; first | refine A.stW (by rfl) (by rfl) (by rfl) (by rfl) ?_ | refine A.st (by rfl) (by rfl) (by rfl) (by first | exact Nat.le_of_ble_eq_true rfl | (simp only [WKl, setL_length, En.len]; omega)) ?_ | refine A.stE (by rfl) (by first | omega | assumption | (simp only [WKl]; omega)) (by first | omega | assumption | (simp only [WKl]; omega)) ?_)
    | (refine G.cond ?_; first | refine Tr.condT (by first | rfl | assumption | (simp only [WKs]; omega)) ?_ | refine Tr.condF (by first | rfl | assumption | (simp only [WKs]; omega)) ?_ | (refine Tr.condS (fun hb => ?_) (fun hb => ?_) <;> ((try simp only [hb]) <;> (try (have hp := hb; simp only [WKs] at hp; (try have hq := Int.not_le.2 hp); (try have hq := Int.not_lt.2 hp))))))
    | (refine G.guard ?_; first | (refine Tr.guardTT (by first | rfl | assumption | (simp only [WKs]; omega)) (fun hb => ?_) <;> (try simp only [hb])) | (refine Tr.guardFF (by first | rfl | assumption | (simp only [WKs]; omega)) (fun hb => ?_) <;> (try simp only [hb])) | (refine Tr.guardS (fun hb => ?_) (fun hb => ?_) <;> ((try simp only [hb]) <;> (try (have hp := hb; simp only [WKs] at hp; (try have hq := Int.not_le.2 hp); (try have hq := Int.not_lt.2 hp))))))
    | (refine G.guardC ?_; refine Tr.guardCS (fun hb => ?_) (fun hb => ?_) <;> ((try simp only [hb]) <;> (try (have hp := hb; simp only [WKs] at hp; (try have hq := Int.not_le.2 hp); (try have hq := Int.not_lt.2 hp)))))
    | (refine G.idx ?_; first | refine Tr.indexArr (by omega) (by omega) ?_ | refine A.idx (by rfl) (by first | omega | assumption | (simp only [WKl]; omega)) (by first | omega | assumption | (simp only [WKl]; omega)) fun hix => ?_)
    | (refine G.len ?_; first | refine A.len ?_ | refine A.lenM ?_ | refine Tr.lenMapNil ?_)
    | (refine G.call 20 ?_; apply Tr.callC ?_ (new_ok _ _) ?_)
    | (refine G.call 21 ?_; apply Tr.callC ?_ (rnew_ok _ _) ?_)
    | (refine G.call 22 ?_; apply Tr.callC ?_ (done21_ok ?_) ?_)
    | (refine G.call 23 ?_; refine Tr.callC (by (repeat (first | exact TakeL.nil | (apply TakeL.cons; focus ((first | ((repeat (first | with_reducible exact TakeA.here | with_reducible apply TakeA.next)); done) | ((repeat (first | exact TakeA.here | apply TakeA.next)); done)))) | fail)); done) (len0n_ok) ?_)
    | (refine G.call 23 ?_; refine Tr.callC (by (repeat (first | exact TakeL.nil | (apply TakeL.cons; focus ((first | ((repeat (first | with_reducible exact TakeA.here | with_reducible apply TakeA.next)); done) | ((repeat (first | exact TakeA.here | apply TakeA.next)); done)))) | fail)); done) (len0e_ok) ?_)
    | (refine G.call 23 ?_; apply Tr.callC ?_ (len_ok _ _) ?_)
    | (refine G.call 24 ?_; apply Tr.callC ?_ (works21_ok) ?_)
    | (refine G.call 25 ?_; refine Tr.callC (by (repeat (first | exact TakeL.nil | (apply TakeL.cons; focus ((first | ((repeat (first | with_reducible exact TakeA.here | with_reducible apply TakeA.next)); done) | ((repeat (first | exact TakeA.here | apply TakeA.next)); done)))) | fail)); done) (free0n_ok) ?_)
    | (refine G.call 25 ?_; refine Tr.callC (by (repeat (first | exact TakeL.nil | (apply TakeL.cons; focus ((first | ((repeat (first | with_reducible exact TakeA.here | with_reducible apply TakeA.next)); done) | ((repeat (first | exact TakeA.here | apply TakeA.next)); done)))) | fail)); done) (free0e_ok) ?_)
    | (refine G.call 25 ?_; apply Tr.callC ?_ (free_ok _ _ ?_) ?_)
    | (refine G.call 26 ?_; refine Tr.callC (by (repeat (first | exact TakeL.nil | (apply TakeL.cons; focus ((first | ((repeat (first | with_reducible exact TakeA.here | with_reducible apply TakeA.next)); done) | ((repeat (first | exact TakeA.here | apply TakeA.next)); done)))) | fail)); done) (set0n_ok) ?_)
    | (refine G.call 26 ?_; refine Tr.callC (by (repeat (first | exact TakeL.nil | (apply TakeL.cons; focus ((first | ((repeat (first | with_reducible exact TakeA.here | with_reducible apply TakeA.next)); done) | ((repeat (first | exact TakeA.here | apply TakeA.next)); done)))) | fail)); done) (set0e_ok) ?_)
    | (refine G.call 26 ?_; apply Tr.callC ?_ (set_ok _ _ _ _) ?_)
    | (refine G.call 27 ?_; refine Tr.callC (by (repeat (first | exact TakeL.nil | (apply TakeL.cons; focus ((first | ((repeat (first | with_reducible exact TakeA.here | with_reducible apply TakeA.next)); done) | ((repeat (first | exact TakeA.here | apply TakeA.next)); done)))) | fail)); done) (rank0n_ok) ?_)
    | (refine G.call 27 ?_; refine Tr.callC (by (repeat (first | exact TakeL.nil | (apply TakeL.cons; focus ((first | ((repeat (first | with_reducible exact TakeA.here | with_reducible apply TakeA.next)); done) | ((repeat (first | exact TakeA.here | apply TakeA.next)); done)))) | fail)); done) (rank0e_ok) ?_)
    | (refine G.call 27 ?_; apply Tr.callC ?_ (rank_ok _ _ _ _) ?_)
    | (refine G.call 28 ?_; refine Tr.callC (by (repeat (first | exact TakeL.nil | (apply TakeL.cons; focus ((first | ((repeat (first | with_reducible exact TakeA.here | with_reducible apply TakeA.next)); done) | ((repeat (first | exact TakeA.here | apply TakeA.next)); done)))) | fail)); done) (pick0n_ok) ?_)
    | (refine G.call 28 ?_; refine Tr.callC (by (repeat (first | exact TakeL.nil | (apply TakeL.cons; focus ((first | ((repeat (first | with_reducible exact TakeA.here | with_reducible apply TakeA.next)); done) | ((repeat (first | exact TakeA.here | apply TakeA.next)); done)))) | fail)); done) (pick0e_ok) ?_)
    | (refine G.call 28 ?_; apply Tr.callC ?_ (pick_ok _ _ ?_) ?_)
    | with_reducible exact TakeL.nil
    | with_reducible apply TakeL.cons
    | rintro _ _ ⟨rfl, rfl⟩
    | rintro _ _ ⟨_, rfl, rfl⟩
    | (refine G.app ?_; first | refine A.app0 (by rfl) (by decide) (by first | omega | assumption | (simp only [WKl]; omega)) fun _ => ?_ | refine A.app (by rfl) (by decide) (by first | omega | assumption | (simp only [WKl]; omega)) fun _ => ?_)
    | (refine G.bs ?_; first | refine Tr.buildNil rfl fun _ => ?_ | refine Tr.build1 _ rfl rfl (by decide) fun _ => ?_)
    | (refine G.cut ?_; refine A.cutTo (by rfl) (by omega) (by omega) fun _ => ?_)
    | (refine G.look ?_; first | refine A.look ?_ | refine Tr.lookupNil ?_)
    | (refine G.mapu ?_; refine A.mapu ?_)
    | refine Tr.makeMap fun _ => ?_
    | (refine G.rem ?_; refine Tr.rem (by omega) ?_)
    | (refine G.prop ?_; first | omega | assumption | exact Nat.le_of_ble_eq_true rfl)
    | ((apply G.take; first | ((repeat (first | with_reducible exact TakeA.here | with_reducible apply TakeA.next)); done) | ((repeat (first | exact TakeA.here | apply TakeA.next)); done)))) <;> (try simp only [WKb, ↓reduceIte, Nat.reduceEqDiff, hdn]))))
      all_goals
        refine Tr.fin hK ⟨rfl, rfl⟩ ?_
        ((try clear hK) <;> (try simp only [WKe, *]) <;> repeat (first
    | with_reducible exact EntR.done
    | (apply EntR.take; focus (first | ((repeat (first | with_reducible exact TakeA.here | with_reducible apply TakeA.next)); done) | ((repeat (first | exact TakeA.here | apply TakeA.next)); done)))
    | with_reducible refine EntR.sep ?_
    | with_reducible apply EntR.ex
    | with_reducible refine EntR.fact (by first | rfl | assumption | omega | simp) ?_
    | refine EntR.drop (F := F) ?_
    | refine EntR.drop ?_))
    · have hdn : decide ((t.d.length : Int) = 0) = false := by simp [hn0]
      have hx1 : at2.a.toNat % t.d.length < t.d.length := Nat.mod_lt _ (by omega)
      have hy1 : at2.b.toNat % t.d.length < t.d.length := Nat.mod_lt _ (by omega)
      generalize hxe : at2.a.toNat % t.d.length = x at hx1
      generalize hye : at2.b.toNat % t.d.length = y at hy1
      ((try simp only [WKb, ↓reduceIte, Nat.reduceEqDiff, Nat.reduceAdd, Nat.reduceSub, Int.reduceEq, Int.reduceLT, Int.reduceLE, pl4, hdn, GenK_conv, wrap_byte, tmod_nat, hxe, hye]) <;> (repeat' ((first
    | (refine G.load ?_; first | refine A.ldW (by rfl) ?_ | refine A.ld1 (by rfl) ?_ | refine A.ldN (by rfl) (by rfl) ?_ | refine A.lS0 (by assumption) (by rfl) ?_ | refine A.lS1 (by assumption) (by rfl) ?_ | refine A.lSW (by assumption) (by rfl) ?_ | refine A.lSN (by assumption) (by rfl) (by rfl) ?_)
    | refine Tr.drewK ?_
    | refine Tr.eqR rfl ?_
    | refine Tr.box rfl fun _ => ?_
    | refine Tr.alloc rfl fun _ => ?_
    | refine Tr.build rfl ?_
    | (refine G.store ?_; first | refine A.stW (by rfl) (by rfl) (by rfl) (by rfl) ?_ | refine A.st (by rfl) (by rfl) (by rfl) (by first | exact Nat.le_of_ble_eq_true rfl | (simp only [WKl, setL_length, En.len]; omega)) ?_ | refine A.stE (by rfl) (by first | omega | assumption | (simp only [WKl]; omega)) (by first | omega | assumption | (simp only [WKl]; omega)) ?_)
    | (refine G.cond ?_; first | refine Tr.condT (by first | rfl | assumption | (simp only [WKs]; omega)) ?_ | refine Tr.condF (by first | rfl | assumption | (simp only [WKs]; omega)) ?_ | (refine Tr.condS (fun hb => ?_) (fun hb => ?_) <;> ((try simp only [hb]) <;> (try (have hp := hb; simp only [WKs] at hp; (try have hq := Int.not_le.2 hp); (try have hq := Int.not_lt.2 hp))))))
    | (refine G.guard ?_; first | (refine Tr.guardTT (by first | rfl | assumption | (simp only [WKs]; omega)) (fun hb => ?_) <;> (try simp only [hb])) | (refine Tr.guardFF (by first | rfl | assumption | (simp only [WKs]; omega)) (fun hb => ?_) <;> (try simp only [hb])) | (refine Tr.guardS (fun hb => ?_) (fun hb => ?_) <;> ((try simp only [hb]) <;> (try (have hp := hb; simp only [WKs] at hp; (try have hq := Int.not_le.2 hp); (try have hq := Int.not_lt.2 hp))))))
    | (refine G.guardC ?_; refine Tr.guardCS (fun hb => ?_) (fun hb => ?_) <;> ((try simp only [hb]) <;> (try (have hp := hb; simp only [WKs] at hp; (try have hq := Int.not_le.2 hp); (try have hq := Int.not_lt.2 hp)))))
    | (refine G.idx ?_; first | refine Tr.indexArr (by omega) (by omega) ?_ | refine A.idx (by rfl) (by first | omega | assumption | (simp only [WKl]; omega)) (by first | omega | assumption | (simp only [WKl]; omega)) fun hix => ?_)
    | (refine G.len ?_; first | refine A.len ?_ | refine A.lenM ?_ | refine Tr.lenMapNil ?_)
    | (refine G.call 20 ?_; apply Tr.callC ?_ (new_ok _ _) ?_)
    | (refine G.call 21 ?_; apply Tr.callC ?_ (rnew_ok _ _) ?_)
    | (refine G.call 22 ?_; apply Tr.callC ?_ (done21_ok ?_) ?_)
    | (refine G.call 23 ?_; refine Tr.callC (by (repeat (first | exact TakeL.nil | (apply TakeL.cons; focus ((first | ((repeat (first | with_reducible exact TakeA.here | with_reducible apply TakeA.next)); done) | ((repeat (first | exact TakeA.here | apply TakeA.next)); done)))) | fail)); done) (len0n_ok) ?_)
    | (refine G.call 23 ?_; refine Tr.callC (by (repeat (first | exact TakeL.nil | (apply TakeL.cons; focus ((first | ((repeat (first | with_reducible exact TakeA.here | with_reducible apply TakeA.next)); done) | ((repeat (first | exact TakeA.here | apply TakeA.next)); done)))) | fail)); done) (len0e_ok) ?_)
    | (refine G.call 23 ?_; apply Tr.callC ?_ (len_ok _ _) ?_)
    | (refine G.call 24 ?_; apply Tr.callC ?_ (works21_ok) ?_)
    | (refine G.call 25 ?_; refine Tr.callC (by (repeat (first | exact TakeL.nil | (apply TakeL.cons; focus ((first | ((repeat (first | with_reducible exact TakeA.here | with_reducible apply TakeA.next)); done) | ((repeat (first | exact TakeA.here | apply TakeA.next)); done)))) | fail)); done) (free0n_ok) ?_)
    | (refine G.call 25 ?_; refine Tr.callC (by (repeat (first | exact TakeL.nil | (apply TakeL.cons; focus ((first | ((repeat (first | with_reducible exact TakeA.here | with_reducible apply TakeA.next)); done) | ((repeat (first | exact TakeA.here | apply TakeA.next)); done)))) | fail)); done) (free0e_ok) ?_)
    | (refine G.call 25 ?_; apply Tr.callC ?_ (free_ok _ _ ?_) ?_)
    | (refine G.call 26 ?_; refine Tr.callC (by (repeat (first | exact TakeL.nil | (apply TakeL.cons; focus ((first | ((repeat (first | with_reducible exact TakeA.here | with_reducible apply TakeA.next)); done) | ((repeat (first | exact TakeA.here | apply TakeA.next)); done)))) | fail)); done) (set0n_ok) ?_)
    | (refine G.call 26 ?_; refine Tr.callC (by (repeat (first | exact TakeL.nil | (apply TakeL.cons; focus ((first | ((repeat (first | with_reducible exact TakeA.here | with_reducible apply TakeA.next)); done) | ((repeat (first | exact TakeA.here | apply TakeA.next)); done)))) | fail)); done) (set0e_ok) ?_)
    | (refine G.call 26 ?_; apply Tr.callC ?_ (set_ok _ _ _ _) ?_)
    | (refine G.call 27 ?_; refine Tr.callC (by (repeat (first | exact TakeL.nil | (apply TakeL.cons; focus ((first | ((repeat (first | with_reducible exact TakeA.here | with_reducible apply TakeA.next)); done) | ((repeat (first | exact TakeA.here | apply TakeA.next)); done)))) | fail)); done) (rank0n_ok) ?_)
    | (refine G.call 27 ?_; refine Tr.callC (by (repeat (first | exact TakeL.nil | (apply TakeL.cons; focus ((first | ((repeat (first | with_reducible exact TakeA.here | with_reducible apply TakeA.next)); done) | ((repeat (first | exact TakeA.here | apply TakeA.next)); done)))) | fail)); done) (rank0e_ok) ?_)
    | (refine G.call 27 ?_; apply Tr.callC ?_ (rank_ok _ _ _ _) ?_)
    | (refine G.call 28 ?_; refine Tr.callC (by (repeat (first | exact TakeL.nil | (apply TakeL.cons; focus ((first | ((repeat (first | with_reducible exact TakeA.here | with_reducible apply TakeA.next)); done) | ((repeat (first | exact TakeA.here | apply TakeA.next)); done)))) | fail)); done) (pick0n_ok) ?_)
    | (refine G.call 28 ?_; refine Tr.callC (by (repeat (first | exact TakeL.nil | (apply TakeL.cons; focus ((first | ((repeat (first | with_reducible exact TakeA.here | with_reducible apply TakeA.next)); done) | ((repeat (first | exact TakeA.here | apply TakeA.next)); done)))) | fail)); done) (pick0e_ok) ?_)
    | (refine G.call 28 ?_; apply Tr.callC ?_ (pick_ok _ _ ?_) ?_)
    | with_reducible exact TakeL.nil
    | with_reducible apply TakeL.cons
    | rintro _ _ ⟨rfl, rfl⟩
    | rintro _ _ ⟨_, rfl, rfl⟩
    | (refine G.app ?_; first | refine A.app0 (by rfl) (by decide) (by first | omega | assumption | (simp only [WKl]; omega)) fun _ => ?_ | refine A.app (by rfl) (by decide) (by first | omega | assumption | (simp only [WKl]; omega)) fun _ => ?_)
    | (refine G.bs ?_; first | refine Tr.buildNil rfl fun _ => ?_ | refine Tr.build1 _ rfl rfl (by decide) fun _ => ?_)
    | (refine G.cut ?_; refine A.cutTo (by rfl) (by omega) (by omega) fun _ => ?_)
    | (refine G.look ?_; first | refine A.look ?_ | refine Tr.lookupNil ?_)
    | (refine G.mapu ?_; refine A.mapu ?_)
    | refine Tr.makeMap fun _ => ?_
    | (refine G.rem ?_; refine Tr.rem (by omega) ?_)
    | (refine G.prop ?_; first | omega | assumption | exact Nat.le_of_ble_eq_true rfl)
    | ((apply G.take; first | ((repeat (first | with_reducible exact TakeA.here | with_reducible apply TakeA.next)); done) | ((repeat (first | exact TakeA.here | apply TakeA.next)); done)))) <;> (try simp only [WKb, ↓reduceIte, Nat.reduceEqDiff, pl4, hdn, GenK_conv, wrap_byte, tmod_nat, hxe, hye]))))
      all_goals
        have hfl : t.free.d.length = t.d.length := freeTo_len t _
        have hft : t.free.turns = t.turns := freeTo_turns t _
        refine Tr.loopE (α := Nat) [4, 15] [9, 12, 13, 14] (fun k => [.bool false, .int .i64 k]) (fun k => [tabA a (t.free.calm k), refB b s t.turns, refS s t.d, sl true s1.v l, sl true s2.v acts]) (fun k => k ≤ t.d.length) (fun k => t.d.length - k) 0 (by (repeat (first | exact TakeL.nil | apply TakeL.cons (by (repeat (first | exact TakeA.here | apply TakeA.next)); done))); done) rfl (by simp) fun j u hj => ?_
        have hcs := calm_spec t.free j (by omega)
        by_cases hjl : j < t.d.length
        · have hw := wrap_succ (k := j) (by omega)
          have hset : (t.free.calm j).setB (j : Int) 3 = true := setB_in (by omega) (.inr rfl)
          have hrk : ((t.free.calm j).set (j : Int) 3).rankB (j : Int) 7 = true := rankB_in (by rw [set_len]; omega)
          ((try simp only [WKb, ↓reduceIte, Nat.reduceEqDiff]) <;> (repeat' ((first
    | (refine G.load ?_; first | refine A.ldW (by rfl) ?_ | refine A.ld1 (by rfl) ?_ | refine A.ldN (by rfl) (by rfl) ?_ | refine A.lS0 (by assumption) (by rfl) ?_ | refine A.lS1 (by assumption) (by rfl) ?_ | refine A.lSW (by assumption) (by rfl) ?_ | refine A.lSN (by assumption) (by rfl) (by rfl) ?_)
    | refine Tr.drewK ?_
    | refine Tr.eqR rfl ?_
    | refine Tr.box rfl fun _ => ?_
    | refine Tr.alloc rfl fun _ => ?_
    | refine Tr.build rfl ?_
    | (refine G.store ?_; first | refine A.stW (by rfl) (by rfl) (by rfl) (by rfl) ?_ | refine A.st (by rfl) (by rfl) (by rfl) (by first | exact Nat.le_of_ble_eq_true rfl | (simp only [WKl, setL_length, En.len]; omega)) ?_ | refine A.stE (by rfl) (by first | omega | assumption | (simp only [WKl]; omega)) (by first | omega | assumption | (simp only [WKl]; omega)) ?_)
    | (refine G.cond ?_; first | refine Tr.condT (by first | rfl | assumption | (simp only [WKs]; omega)) ?_ | refine Tr.condF (by first | rfl | assumption | (simp only [WKs]; omega)) ?_ | (refine Tr.condS (fun hb => ?_) (fun hb => ?_) <;> ((try simp only [hb]) <;> (try (have hp := hb; simp only [WKs] at hp; (try have hq := Int.not_le.2 hp); (try have hq := Int.not_lt.2 hp))))))
    | (refine G.guard ?_; first | (refine Tr.guardTT (by first | rfl | assumption | (simp only [WKs]; omega)) (fun hb => ?_) <;> (try simp only [hb])) | (refine Tr.guardFF (by first | rfl | assumption | (simp only [WKs]; omega)) (fun hb => ?_) <;> (try simp only [hb])) | (refine Tr.guardS (fun hb => ?_) (fun hb => ?_) <;> ((try simp only [hb]) <;> (try (have hp := hb; simp only [WKs] at hp; (try have hq := Int.not_le.2 hp); (try have hq := Int.not_lt.2 hp))))))
    | (refine G.guardC ?_; refine Tr.guardCS (fun hb => ?_) (fun hb => ?_) <;> ((try simp only [hb]) <;> (try (have hp := hb; simp only [WKs] at hp; (try have hq := Int.not_le.2 hp); (try have hq := Int.not_lt.2 hp)))))
    | (refine G.idx ?_; first | refine Tr.indexArr (by omega) (by omega) ?_ | refine A.idx (by rfl) (by first | omega | assumption | (simp only [WKl]; omega)) (by first | omega | assumption | (simp only [WKl]; omega)) fun hix => ?_)
    | (refine G.len ?_; first | refine A.len ?_ | refine A.lenM ?_ | refine Tr.lenMapNil ?_)
    | (refine G.call 20 ?_; apply Tr.callC ?_ (new_ok _ _) ?_)
    | (refine G.call 21 ?_; apply Tr.callC ?_ (rnew_ok _ _) ?_)
    | (refine G.call 22 ?_; apply Tr.callC ?_ (done21_ok ?_) ?_)
    | (refine G.call 23 ?_; refine Tr.callC (by (repeat (first | exact TakeL.nil | (apply TakeL.cons; focus ((first | ((repeat (first | with_reducible exact TakeA.here | with_reducible apply TakeA.next)); done) | ((repeat (first | exact TakeA.here | apply TakeA.next)); done)))) | fail)); done) (len0n_ok) ?_)
    | (refine G.call 23 ?_; refine Tr.callC (by (repeat (first | exact TakeL.nil | (apply TakeL.cons; focus ((first | ((repeat (first | with_reducible exact TakeA.here | with_reducible apply TakeA.next)); done) | ((repeat (first | exact TakeA.here | apply TakeA.next)); done)))) | fail)); done) (len0e_ok) ?_)
    | (refine G.call 23 ?_; apply Tr.callC ?_ (len_ok _ _) ?_)
    | (refine G.call 24 ?_; apply Tr.callC ?_ (works21_ok) ?_)
    | (refine G.call 25 ?_; refine Tr.callC (by (repeat (first | exact TakeL.nil | (apply TakeL.cons; focus ((first | ((repeat (first | with_reducible exact TakeA.here | with_reducible apply TakeA.next)); done) | ((repeat (first | exact TakeA.here | apply TakeA.next)); done)))) | fail)); done) (free0n_ok) ?_)
    | (refine G.call 25 ?_; refine Tr.callC (by (repeat (first | exact TakeL.nil | (apply TakeL.cons; focus ((first | ((repeat (first | with_reducible exact TakeA.here | with_reducible apply TakeA.next)); done) | ((repeat (first | exact TakeA.here | apply TakeA.next)); done)))) | fail)); done) (free0e_ok) ?_)
    | (refine G.call 25 ?_; apply Tr.callC ?_ (free_ok _ _ ?_) ?_)
    | (refine G.call 26 ?_; refine Tr.callC (by (repeat (first | exact TakeL.nil | (apply TakeL.cons; focus ((first | ((repeat (first | with_reducible exact TakeA.here | with_reducible apply TakeA.next)); done) | ((repeat (first | exact TakeA.here | apply TakeA.next)); done)))) | fail)); done) (set0n_ok) ?_)
    | (refine G.call 26 ?_; refine Tr.callC (by (repeat (first | exact TakeL.nil | (apply TakeL.cons; focus ((first | ((repeat (first | with_reducible exact TakeA.here | with_reducible apply TakeA.next)); done) | ((repeat (first | exact TakeA.here | apply TakeA.next)); done)))) | fail)); done) (set0e_ok) ?_)
    | (refine G.call 26 ?_; apply Tr.callC ?_ (set_ok _ _ _ _) ?_)
    | (refine G.call 27 ?_; refine Tr.callC (by (repeat (first | exact TakeL.nil | (apply TakeL.cons; focus ((first | ((repeat (first | with_reducible exact TakeA.here | with_reducible apply TakeA.next)); done) | ((repeat (first | exact TakeA.here | apply TakeA.next)); done)))) | fail)); done) (rank0n_ok) ?_)
    | (refine G.call 27 ?_; refine Tr.callC (by (repeat (first | exact TakeL.nil | (apply TakeL.cons; focus ((first | ((repeat (first | with_reducible exact TakeA.here | with_reducible apply TakeA.next)); done) | ((repeat (first | exact TakeA.here | apply TakeA.next)); done)))) | fail)); done) (rank0e_ok) ?_)
    | (refine G.call 27 ?_; apply Tr.callC ?_ (rank_ok _ _ _ _) ?_)
    | (refine G.call 28 ?_; refine Tr.callC (by (repeat (first | exact TakeL.nil | (apply TakeL.cons; focus ((first | ((repeat (first | with_reducible exact TakeA.here | with_reducible apply TakeA.next)); done) | ((repeat (first | exact TakeA.here | apply TakeA.next)); done)))) | fail)); done) (pick0n_ok) ?_)
    | (refine G.call 28 ?_; refine Tr.callC (by (repeat (first | exact TakeL.nil | (apply TakeL.cons; focus ((first | ((repeat (first | with_reducible exact TakeA.here | with_reducible apply TakeA.next)); done) | ((repeat (first | exact TakeA.here | apply TakeA.next)); done)))) | fail)); done) (pick0e_ok) ?_)
    | (refine G.call 28 ?_; apply Tr.callC ?_ (pick_ok _ _ ?_) ?_)
    | with_reducible exact TakeL.nil
    | with_reducible apply TakeL.cons
    | rintro _ _ ⟨rfl, rfl⟩
    | rintro _ _ ⟨_, rfl, rfl⟩
    | (refine G.app ?_; first | refine A.app0 (by rfl) (by decide) (by first | omega | assumption | (simp only [WKl]; omega)) fun _ => ?_ | refine A.app (by rfl) (by decide) (by first | omega | assumption | (simp only [WKl]; omega)) fun _ => ?_)
    | (refine G.bs ?_; first | refine Tr.buildNil rfl fun _ => ?_ | refine Tr.build1 _ rfl rfl (by decide) fun _ => ?_)
    | (refine G.cut ?_; refine A.cutTo (by rfl) (by omega) (by omega) fun _ => ?_)
    | (refine G.look ?_; first | refine A.look ?_ | refine Tr.lookupNil ?_)
    | (refine G.mapu ?_; refine A.mapu ?_)
    | refine Tr.makeMap fun _ => ?_
    | (refine G.rem ?_; refine Tr.rem (by omega) ?_)
    | (refine G.prop ?_; first | omega | assumption | exact Nat.le_of_ble_eq_true rfl)
    | ((apply G.take; first | ((repeat (first | with_reducible exact TakeA.here | with_reducible apply TakeA.next)); done) | ((repeat (first | exact TakeA.here | apply TakeA.next)); done)))) <;> (try simp only [WKb, ↓reduceIte, Nat.reduceEqDiff, hw, hset, hrk]))))
          all_goals (apply Tr.againE (j + 1); (focus (simp only [WKb, ↓reduceIte, Nat.reduceEqDiff])); (focus ((try simp only [WKb, ↓reduceIte, Nat.reduceEqDiff]); (all_goals ((repeat (refine cons_eq (by first | rfl | (simp [*]; done)) ?_)); rfl)); done)); (focus (first | omega | assumption | (simp only []; omega) | (refine ⟨by omega, by assumption⟩) | (simp only []; refine ⟨by omega, by assumption⟩) | ((try simp only []); (repeat' (first | omega | assumption | refine And.intro ?_ ?_)); done))); (focus (first | omega | (simp only []; omega))); (focus (((try clear hK) <;> (try simp only [WKe, *]) <;> repeat (first
    | with_reducible exact EntR.done
    | (apply EntR.take; focus (first | ((repeat (first | with_reducible exact TakeA.here | with_reducible apply TakeA.next)); done) | ((repeat (first | exact TakeA.here | apply TakeA.next)); done)))
    | with_reducible refine EntR.sep ?_
    | with_reducible apply EntR.ex
    | with_reducible refine EntR.fact (by first | rfl | assumption | omega | simp) ?_
    | refine EntR.drop (F := F) ?_
    | refine EntR.drop ?_)))))
        · have hjj : j = t.d.length := by omega
          subst hjj
          have hts := turns_spec (t := t.free.calm t.d.length) (x := x) (y := y) (by omega) (by omega) ⟨by rw [hcs.2.1, hft]; exact htm.1, by rw [hcs.2.1, hft]; have := htm.2; omega⟩ (fun j hj => calm_all (by omega))
          obtain ⟨ht1, ht2, ht3⟩ := hts
          have hs1 : (t.free.calm t.d.length).setB (x : Int) 1 = true := setB_in (by omega) (.inl rfl)
          have hs2 : ((t.free.calm t.d.length).set (x : Int) 1).setB (y : Int) 1 = true := setB_in (by rw [set_len]; omega) (.inl rfl)
          have hz2 : (((t.free.calm t.d.length).set (x : Int) 1).set (y : Int) 1).d.length = t.d.length := by rw [set_len, set_len]; omega
          have hz3 : ((((t.free.calm t.d.length).set (x : Int) 1).set (y : Int) 1).set (x : Int) 1).d.length = t.d.length := by rw [set_len]; exact hz2
          by_cases hxy : x = y
          · have hdx : decide ((x : Int) = (y : Int)) = true := by simp [hxy]
            ((try simp only [WKb, ↓reduceIte, Nat.reduceEqDiff]) <;> (repeat' ((first
    | (refine G.load ?_; first | refine A.ldW (by rfl) ?_ | refine A.ld1 (by rfl) ?_ | refine A.ldN (by rfl) (by rfl) ?_ | refine A.lS0 (by assumption) (by rfl) ?_ | refine A.lS1 (by assumption) (by rfl) ?_ | refine A.lSW (by assumption) (by rfl) ?_ | refine A.lSN (by assumption) (by rfl) (by rfl) ?_)
    | refine Tr.drewK ?_
    | refine Tr.eqR rfl ?_
    | refine Tr.box rfl fun _ => ?_
    | refine Tr.alloc rfl fun _ => ?_
    | refine Tr.build rfl ?_
    | (refine G.store ?_; first | refine A.stW (by rfl) (by rfl) (by rfl) (by rfl) ?_ | refine A.st (by rfl) (by rfl) (by rfl) (by first | exact Nat.le_of_ble_eq_true rfl | (simp only [WKl, setL_length, En.len]; omega)) ?_ | refine A.stE (by rfl) (by first | omega | assumption | (simp only [WKl]; omega)) (by first | omega | assumption | (simp only [WKl]; omega)) ?_)
    | (refine G.cond ?_; first | refine Tr.condT (by first | rfl | assumption | (simp only [WKs]; omega)) ?_ | refine Tr.condF (by first | rfl | assumption | (simp only [WKs]; omega)) ?_ | (refine Tr.condS (fun hb => ?_) (fun hb => ?_) <;> ((try simp only [hb]) <;> (try (have hp := hb; simp only [WKs] at hp; (try have hq := Int.not_le.2 hp); (try have hq := Int.not_lt.2 hp))))))
    | (refine G.guard ?_; first | (refine Tr.guardTT (by first | rfl | assumption | (simp only [WKs]; omega)) (fun hb => ?_) <;> (try simp only [hb])) | (refine Tr.guardFF (by first | rfl | assumption | (simp only [WKs]; omega)) (fun hb => ?_) <;> (try simp only [hb])) | (refine Tr.guardS (fun hb => ?_) (fun hb => ?_) <;> ((try simp only [hb]) <;> (try (have hp := hb; simp only [WKs] at hp; (try have hq := Int.not_le.2 hp); (try have hq := Int.not_lt.2 hp))))))
    | (refine G.guardC ?_; refine Tr.guardCS (fun hb => ?_) (fun hb => ?_) <;> ((try simp only [hb]) <;> (try (have hp := hb; simp only [WKs] at hp; (try have hq := Int.not_le.2 hp); (try have hq := Int.not_lt.2 hp)))))
    | (refine G.idx ?_; first | refine Tr.indexArr (by omega) (by omega) ?_ | refine A.idx (by rfl) (by first | omega | assumption | (simp only [WKl]; omega)) (by first | omega | assumption | (simp only [WKl]; omega)) fun hix => ?_)
    | (refine G.len ?_; first | refine A.len ?_ | refine A.lenM ?_ | refine Tr.lenMapNil ?_)
    | (refine G.call 20 ?_; apply Tr.callC ?_ (new_ok _ _) ?_)
    | (refine G.call 21 ?_; apply Tr.callC ?_ (rnew_ok _ _) ?_)
    | (refine G.call 22 ?_; apply Tr.callC ?_ (done21_ok ?_) ?_)
    | (refine G.call 23 ?_; refine Tr.callC (by (repeat (first | exact TakeL.nil | (apply TakeL.cons; focus ((first | ((repeat (first | with_reducible exact TakeA.here | with_reducible apply TakeA.next)); done) | ((repeat (first | exact TakeA.here | apply TakeA.next)); done)))) | fail)); done) (len0n_ok) ?_)
    | (refine G.call 23 ?_; refine Tr.callC (by (repeat (first | exact TakeL.nil | (apply TakeL.cons; focus ((first | ((repeat (first | with_reducible exact TakeA.here | with_reducible apply TakeA.next)); done) | ((repeat (first | exact TakeA.here | apply TakeA.next)); done)))) | fail)); done) (len0e_ok) ?_)
    | (refine G.call 23 ?_; apply Tr.callC ?_ (len_ok _ _) ?_)
    | (refine G.call 24 ?_; apply Tr.callC ?_ (works21_ok) ?_)
    | (refine G.call 25 ?_; refine Tr.callC (by (repeat (first | exact TakeL.nil | (apply TakeL.cons; focus ((first | ((repeat (first | with_reducible exact TakeA.here | with_reducible apply TakeA.next)); done) | ((repeat (first | exact TakeA.here | apply TakeA.next)); done)))) | fail)); done) (free0n_ok) ?_)
    | (refine G.call 25 ?_; refine Tr.callC (by (repeat (first | exact TakeL.nil | (apply TakeL.cons; focus ((first | ((repeat (first | with_reducible exact TakeA.here | with_reducible apply TakeA.next)); done) | ((repeat (first | exact TakeA.here | apply TakeA.next)); done)))) | fail)); done) (free0e_ok) ?_)
    | (refine G.call 25 ?_; apply Tr.callC ?_ (free_ok _ _ ?_) ?_)
    | (refine G.call 26 ?_; refine Tr.callC (by (repeat (first | exact TakeL.nil | (apply TakeL.cons; focus ((first | ((repeat (first | with_reducible exact TakeA.here | with_reducible apply TakeA.next)); done) | ((repeat (first | exact TakeA.here | apply TakeA.next)); done)))) | fail)); done) (set0n_ok) ?_)
    | (refine G.call 26 ?_; refine Tr.callC (by (repeat (first | exact TakeL.nil | (apply TakeL.cons; focus ((first | ((repeat (first | with_reducible exact TakeA.here | with_reducible apply TakeA.next)); done) | ((repeat (first | exact TakeA.here | apply TakeA.next)); done)))) | fail)); done) (set0e_ok) ?_)
    | (refine G.call 26 ?_; apply Tr.callC ?_ (set_ok _ _ _ _) ?_)
    | (refine G.call 27 ?_; refine Tr.callC (by (repeat (first | exact TakeL.nil | (apply TakeL.cons; focus ((first | ((repeat (first | with_reducible exact TakeA.here | with_reducible apply TakeA.next)); done) | ((repeat (first | exact TakeA.here | apply TakeA.next)); done)))) | fail)); done) (rank0n_ok) ?_)
    | (refine G.call 27 ?_; refine Tr.callC (by (repeat (first | exact TakeL.nil | (apply TakeL.cons; focus ((first | ((repeat (first | with_reducible exact TakeA.here | with_reducible apply TakeA.next)); done) | ((repeat (first | exact TakeA.here | apply TakeA.next)); done)))) | fail)); done) (rank0e_ok) ?_)
    | (refine G.call 27 ?_; apply Tr.callC ?_ (rank_ok _ _ _ _) ?_)
    | (refine G.call 28 ?_; refine Tr.callC (by (repeat (first | exact TakeL.nil | (apply TakeL.cons; focus ((first | ((repeat (first | with_reducible exact TakeA.here | with_reducible apply TakeA.next)); done) | ((repeat (first | exact TakeA.here | apply TakeA.next)); done)))) | fail)); done) (pick0n_ok) ?_)
    | (refine G.call 28 ?_; refine Tr.callC (by (repeat (first | exact TakeL.nil | (apply TakeL.cons; focus ((first | ((repeat (first | with_reducible exact TakeA.here | with_reducible apply TakeA.next)); done) | ((repeat (first | exact TakeA.here | apply TakeA.next)); done)))) | fail)); done) (pick0e_ok) ?_)
    | (refine G.call 28 ?_; apply Tr.callC ?_ (pick_ok _ _ ?_) ?_)
    | with_reducible exact TakeL.nil
    | with_reducible apply TakeL.cons
    | rintro _ _ ⟨rfl, rfl⟩
    | rintro _ _ ⟨_, rfl, rfl⟩
    | (refine G.app ?_; first | refine A.app0 (by rfl) (by decide) (by first | omega | assumption | (simp only [WKl]; omega)) fun _ => ?_ | refine A.app (by rfl) (by decide) (by first | omega | assumption | (simp only [WKl]; omega)) fun _ => ?_)
    | (refine G.bs ?_; first | refine Tr.buildNil rfl fun _ => ?_ | refine Tr.build1 _ rfl rfl (by decide) fun _ => ?_)
    | (refine G.cut ?_; refine A.cutTo (by rfl) (by omega) (by omega) fun _ => ?_)
    | (refine G.look ?_; first | refine A.look ?_ | refine Tr.lookupNil ?_)
    | (refine G.mapu ?_; refine A.mapu ?_)
    | refine Tr.makeMap fun _ => ?_
    | (refine G.rem ?_; refine Tr.rem (by omega) ?_)
    | (refine G.prop ?_; first | omega | assumption | exact Nat.le_of_ble_eq_true rfl)
    | ((apply G.take; first | ((repeat (first | with_reducible exact TakeA.here | with_reducible apply TakeA.next)); done) | ((repeat (first | exact TakeA.here | apply TakeA.next)); done)))) <;> (try simp only [WKb, ↓reduceIte, Nat.reduceEqDiff, ht1, ht2, hs1, hs2, hdx]))))
            all_goals
              refine Tr.fin hK ⟨rfl, rfl⟩ ?_
              ((try clear hK) <;> (try simp only [WKe, *]) <;> repeat (first
    | with_reducible exact EntR.done
    | (apply EntR.take; focus (first | ((repeat (first | with_reducible exact TakeA.here | with_reducible apply TakeA.next)); done) | ((repeat (first | exact TakeA.here | apply TakeA.next)); done)))
    | with_reducible refine EntR.sep ?_
    | with_reducible apply EntR.ex
    | with_reducible refine EntR.fact (by first | rfl | assumption | omega | simp) ?_
    | refine EntR.drop (F := F) ?_
    | refine EntR.drop ?_))
          · have hdx : decide ((x : Int) = (y : Int)) = false := by simp; omega
            have ht4 := ht3 hxy
            clear ht3
            ((try simp only [WKb, ↓reduceIte, Nat.reduceEqDiff]) <;> (repeat' ((first
    | (refine G.load ?_; first | refine A.ldW (by rfl) ?_ | refine A.ld1 (by rfl) ?_ | refine A.ldN (by rfl) (by rfl) ?_ | refine A.lS0 (by assumption) (by rfl) ?_ | refine A.lS1 (by assumption) (by rfl) ?_ | refine A.lSW (by assumption) (by rfl) ?_ | refine A.lSN (by assumption) (by rfl) (by rfl) ?_)
    | refine Tr.drewK ?_
    | refine Tr.eqR rfl ?_
    | refine Tr.box rfl fun _ => ?_
    | refine Tr.alloc rfl fun _ => ?_
    | refine Tr.build rfl ?_
    | (refine G.store ?_; first | refine A.stW (by rfl) (by rfl) (by rfl) (by rfl) ?_ | refine A.st (by rfl) (by rfl) (by rfl) (by first | exact Nat.le_of_ble_eq_true rfl | (simp only [WKl, setL_length, En.len]; omega)) ?_ | refine A.stE (by rfl) (by first | omega | assumption | (simp only [WKl]; omega)) (by first | omega | assumption | (simp only [WKl]; omega)) ?_)
    | (refine G.cond ?_; first | refine Tr.condT (by first | rfl | assumption | (simp only [WKs]; omega)) ?_ | refine Tr.condF (by first | rfl | assumption | (simp only [WKs]; omega)) ?_ | (refine Tr.condS (fun hb => ?_) (fun hb => ?_) <;> ((try simp only [hb]) <;> (try (have hp := hb; simp only [WKs] at hp; (try have hq := Int.not_le.2 hp); (try have hq := Int.not_lt.2 hp))))))
    | (refine G.guard ?_; first | (refine Tr.guardTT (by first | rfl | assumption | (simp only [WKs]; omega)) (fun hb => ?_) <;> (try simp only [hb])) | (refine Tr.guardFF (by first | rfl | assumption | (simp only [WKs]; omega)) (fun hb => ?_) <;> (try simp only [hb])) | (refine Tr.guardS (fun hb => ?_) (fun hb => ?_) <;> ((try simp only [hb]) <;> (try (have hp := hb; simp only [WKs] at hp; (try have hq := Int.not_le.2 hp); (try have hq := Int.not_lt.2 hp))))))
    | (refine G.guardC ?_; refine Tr.guardCS (fun hb => ?_) (fun hb => ?_) <;> ((try simp only [hb]) <;> (try (have hp := hb; simp only [WKs] at hp; (try have hq := Int.not_le.2 hp); (try have hq := Int.not_lt.2 hp)))))
    | (refine G.idx ?_; first | refine Tr.indexArr (by omega) (by omega) ?_ | refine A.idx (by rfl) (by first | omega | assumption | (simp only [WKl]; omega)) (by first | omega | assumption | (simp only [WKl]; omega)) fun hix => ?_)
    | (refine G.len ?_; first | refine A.len ?_ | refine A.lenM ?_ | refine Tr.lenMapNil ?_)
    | (refine G.call 20 ?_; apply Tr.callC ?_ (new_ok _ _) ?_)
    | (refine G.call 21 ?_; apply Tr.callC ?_ (rnew_ok _ _) ?_)
    | (refine G.call 22 ?_; apply Tr.callC ?_ (done21_ok ?_) ?_)
    | (refine G.call 23 ?_; refine Tr.callC (by (repeat (first | exact TakeL.nil | (apply TakeL.cons; focus ((first | ((repeat (first | with_reducible exact TakeA.here | with_reducible apply TakeA.next)); done) | ((repeat (first | exact TakeA.here | apply TakeA.next)); done)))) | fail)); done) (len0n_ok) ?_)
    | (refine G.call 23 ?_; refine Tr.callC (by (repeat (first | exact TakeL.nil | (apply TakeL.cons; focus ((first | ((repeat (first | with_reducible exact TakeA.here | with_reducible apply TakeA.next)); done) | ((repeat (first | exact TakeA.here | apply TakeA.next)); done)))) | fail)); done) (len0e_ok) ?_)
    | (refine G.call 23 ?_; apply Tr.callC ?_ (len_ok _ _) ?_)
    | (refine G.call 24 ?_; apply Tr.callC ?_ (works21_ok) ?_)
    | (refine G.call 25 ?_; refine Tr.callC (by (repeat (first | exact TakeL.nil | (apply TakeL.cons; focus ((first | ((repeat (first | with_reducible exact TakeA.here | with_reducible apply TakeA.next)); done) | ((repeat (first | exact TakeA.here | apply TakeA.next)); done)))) | fail)); done) (free0n_ok) ?_)
    | (refine G.call 25 ?_; refine Tr.callC (by (repeat (first | exact TakeL.nil | (apply TakeL.cons; focus ((first | ((repeat (first | with_reducible exact TakeA.here | with_reducible apply TakeA.next)); done) | ((repeat (first | exact TakeA.here | apply TakeA.next)); done)))) | fail)); done) (free0e_ok) ?_)
    | (refine G.call 25 ?_; apply Tr.callC ?_ (free_ok _ _ ?_) ?_)
    | (refine G.call 26 ?_; refine Tr.callC (by (repeat (first | exact TakeL.nil | (apply TakeL.cons; focus ((first | ((repeat (first | with_reducible exact TakeA.here | with_reducible apply TakeA.next)); done) | ((repeat (first | exact TakeA.here | apply TakeA.next)); done)))) | fail)); done) (set0n_ok) ?_)
    | (refine G.call 26 ?_; refine Tr.callC (by (repeat (first | exact TakeL.nil | (apply TakeL.cons; focus ((first | ((repeat (first | with_reducible exact TakeA.here | with_reducible apply TakeA.next)); done) | ((repeat (first | exact TakeA.here | apply TakeA.next)); done)))) | fail)); done) (set0e_ok) ?_)
    | (refine G.call 26 ?_; apply Tr.callC ?_ (set_ok _ _ _ _) ?_)
    | (refine G.call 27 ?_; refine Tr.callC (by (repeat (first | exact TakeL.nil | (apply TakeL.cons; focus ((first | ((repeat (first | with_reducible exact TakeA.here | with_reducible apply TakeA.next)); done) | ((repeat (first | exact TakeA.here | apply TakeA.next)); done)))) | fail)); done) (rank0n_ok) ?_)
    | (refine G.call 27 ?_; refine Tr.callC (by (repeat (first | exact TakeL.nil | (apply TakeL.cons; focus ((first | ((repeat (first | with_reducible exact TakeA.here | with_reducible apply TakeA.next)); done) | ((repeat (first | exact TakeA.here | apply TakeA.next)); done)))) | fail)); done) (rank0e_ok) ?_)
    | (refine G.call 27 ?_; apply Tr.callC ?_ (rank_ok _ _ _ _) ?_)
    | (refine G.call 28 ?_; refine Tr.callC (by (repeat (first | exact TakeL.nil | (apply TakeL.cons; focus ((first | ((repeat (first | with_reducible exact TakeA.here | with_reducible apply TakeA.next)); done) | ((repeat (first | exact TakeA.here | apply TakeA.next)); done)))) | fail)); done) (pick0n_ok) ?_)
    | (refine G.call 28 ?_; refine Tr.callC (by (repeat (first | exact TakeL.nil | (apply TakeL.cons; focus ((first | ((repeat (first | with_reducible exact TakeA.here | with_reducible apply TakeA.next)); done) | ((repeat (first | exact TakeA.here | apply TakeA.next)); done)))) | fail)); done) (pick0e_ok) ?_)
    | (refine G.call 28 ?_; apply Tr.callC ?_ (pick_ok _ _ ?_) ?_)
    | with_reducible exact TakeL.nil
    | with_reducible apply TakeL.cons
    | rintro _ _ ⟨rfl, rfl⟩
    | rintro _ _ ⟨_, rfl, rfl⟩
    | (refine G.app ?_; first | refine A.app0 (by rfl) (by decide) (by first | omega | assumption | (simp only [WKl]; omega)) fun _ => ?_ | refine A.app (by rfl) (by decide) (by first | omega | assumption | (simp only [WKl]; omega)) fun _ => ?_)
    | (refine G.bs ?_; first | refine Tr.buildNil rfl fun _ => ?_ | refine Tr.build1 _ rfl rfl (by decide) fun _ => ?_)
    | (refine G.cut ?_; refine A.cutTo (by rfl) (by omega) (by omega) fun _ => ?_)
    | (refine G.look ?_; first | refine A.look ?_ | refine Tr.lookupNil ?_)
    | (refine G.mapu ?_; refine A.mapu ?_)
    | refine Tr.makeMap fun _ => ?_
    | (refine G.rem ?_; refine Tr.rem (by omega) ?_)
    | (refine G.prop ?_; first | omega | assumption | exact Nat.le_of_ble_eq_true rfl)
    | ((apply G.take; first | ((repeat (first | with_reducible exact TakeA.here | with_reducible apply TakeA.next)); done) | ((repeat (first | exact TakeA.here | apply TakeA.next)); done)))) <;> (try simp only [WKb, ↓reduceIte, Nat.reduceEqDiff, ht1, ht2, hs1, hs2, hdx, ht4]))))
            all_goals
              refine Tr.fin hK ⟨rfl, rfl⟩ ?_
              ((try clear hK) <;> (try simp only [WKe, *]) <;> repeat (first
    | with_reducible exact EntR.done
    | (apply EntR.take; focus (first | ((repeat (first | with_reducible exact TakeA.here | with_reducible apply TakeA.next)); done) | ((repeat (first | exact TakeA.here | apply TakeA.next)); done)))
    | with_reducible refine EntR.sep ?_
    | with_reducible apply EntR.ex
    | with_reducible refine EntR.fact (by first | rfl | assumption | omega | simp) ?_
    | refine EntR.drop (F := F) ?_
    | refine EntR.drop ?_))
end Go.Proofs.Ytlmcoiloepoggaa
