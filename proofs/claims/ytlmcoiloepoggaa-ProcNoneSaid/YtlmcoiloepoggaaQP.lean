import Derived.Test.YtlmcoiloepoggaaQN
namespace Go.Proofs.Ytlmcoiloepoggaa
open Go Go.Wk
set_option maxHeartbeats 3200000
set_option maxRecDepth 100000
structure Pt where
  a : Option Nat
instance : Inhabited Pt := ⟨⟨none⟩⟩
instance : En Pt := ⟨fun p => [.pointer (p.a.map fun b => ⟨b, 0, none⟩)], 1, fun _ => rfl, fun _ => rfl, by decide⟩
attribute [local irreducible] GenK EGenK EUnitK CallK FnK CallV GuardO GuardC CondW opX opK opKc chkR eqR seqK blkK endL WL WD W LoopW BinK Tr drewK resL PickK NotK NilK ExtrK getK Instr.storeAt Instr.loadAt Instr.fieldAt Instr.indexAt Instr.lookup Instr.mapUpdate Instr.box Instr.alloc Instr.build Instr.buildSlice Instr.makeSlice Instr.makeMap Instr.sliceAt Instr.field Instr.index Instr.makeInterface Instr.typeAssert Builtin.len_ Builtin.append_ Builtin.cap_ Builtin.min_ Builtin.max_ Builtin.copy_ Builtin.clear_ convert binOp mp blk rob sl sep ex fact old
theorem none21_ok {a : ActP} : Trip Try.prog 8 [a.v].toArray [] fun v l' => v = .bool true ∧ l' = [] := by
  intro F K hK
  simp only [List.nil_append]
  refine Tr.enter (rs := [.tmp 2]) mixed fn8 rfl (by simp +arith [Try.ntmps8]) fun u => ?_
  simp only [cd8, Try.f8]
  ((try simp only [WKb, ↓reduceIte]) <;> (repeat' ((first
    | (refine G.load ?_; first | refine A.ldW (by rfl) ?_ | refine A.ld1 (by rfl) ?_ | refine A.ldN (by rfl) (by rfl) ?_ | refine A.lS0 (by assumption) (by rfl) ?_ | refine A.lS1 (by assumption) (by rfl) ?_ | refine A.lSW (by assumption) (by rfl) ?_ | refine A.lSN (by assumption) (by rfl) (by rfl) ?_)
    | refine Tr.drewK ?_
    | refine Tr.eqR rfl ?_
    | refine Tr.box rfl fun _ => ?_
    | refine Tr.alloc rfl fun _ => ?_
    | refine Tr.build rfl ?_
    | (refine G.store ?_; first | refine A.stW (by rfl) (by rfl) (by rfl) (by rfl) ?_ | refine A.st (by rfl) (by rfl) (by rfl) (by first | exact Nat.le_of_ble_eq_true rfl | (simp only [WKl, setL_length, En.len]; omega)) ?_ | refine A.stE (by rfl) (by first | omega | assumption | (simp only [WKl]; omega)) (by first | omega | assumption | (simp only [WKl]; omega)) ?_)
    | (refine G.cond ?_; first | refine Tr.condT (by first | rfl | assumption | (simp only [WKs]; omega)) ?_ | refine Tr.condF (by first | rfl | assumption | (simp only [WKs]; omega)) ?_ | (refine Tr.condS (fun hb => ?_) (fun hb => ?_) <;> ((try simp only [hb]) <;> (try (have hp := hb; simp only [WKs] at hp; (try have hq := Int.not_le.2 hp); (try have hq := Int.not_lt.2 hp))))))
    | (refine G.guard ?_; first | (refine Tr.guardTT (by first | rfl | assumption | (simp only [WKs]; omega)) (fun hb => ?_) <;> (try simp only [hb])) | (refine Tr.guardFF (by first | rfl | assumption | (simp only [WKs]; omega)) (fun hb => ?_) <;> (try simp only [hb])) | (refine Tr.guardS (fun hb => ?_) (fun hb => ?_) <;> ((try simp only [hb]) <;> (try (have hp := hb; simp only [WKs] at hp; (try have hq := Int.not_le.2 hp); (try have hq := Int.not_lt.2 hp))))))
    | (refine G.guardC ?_; refine Tr.guardCS (fun hb => ?_) (fun hb => ?_) <;> ((try simp only [hb]) <;> (try (have hp := hb; simp only [WKs] at hp; (try have hq := Int.not_le.2 hp); (try have hq := Int.not_lt.2 hp)))))
    | (refine G.idx ?_; first | refine Tr.indexArr (by omega) (by omega) ?_ | refine A.idx (by rfl) (by first | omega | assumption | (simp only [WKl]; omega)) (by first | omega | assumption | (simp only [WKl]; omega)) fun hix => ?_)
    | (refine G.len ?_; first | refine A.len ?_ | refine A.lenM ?_ | refine Tr.lenMapNil ?_)
    | (refine G.call 25 ?_; refine Tr.callC (by (repeat (first | exact TakeL.nil | (apply TakeL.cons; focus ((first | ((repeat (first | with_reducible exact TakeA.here | with_reducible apply TakeA.next)); done) | ((repeat (first | exact TakeA.here | apply TakeA.next)); done)))) | fail)); done) (free_ok _ _ ?_) ?_)
    | (refine G.call 25 ?_; refine Tr.callC (by (repeat (first | exact TakeL.nil | (apply TakeL.cons; focus ((first | ((repeat (first | with_reducible exact TakeA.here | with_reducible apply TakeA.next)); done) | ((repeat (first | exact TakeA.here | apply TakeA.next)); done)))) | fail)); done) (free0n_ok) ?_)
    | (refine G.call 25 ?_; apply Tr.callC ?_ (free0e_ok) ?_)
    | (refine G.call 36 ?_; refine Tr.callC (by (repeat (first | exact TakeL.nil | (apply TakeL.cons; focus ((first | ((repeat (first | with_reducible exact TakeA.here | with_reducible apply TakeA.next)); done) | ((repeat (first | exact TakeA.here | apply TakeA.next)); done)))) | fail)); done) (waits_ok _ _ _) ?_)
    | (refine G.call 36 ?_; refine Tr.callC (by (repeat (first | exact TakeL.nil | (apply TakeL.cons; focus ((first | ((repeat (first | with_reducible exact TakeA.here | with_reducible apply TakeA.next)); done) | ((repeat (first | exact TakeA.here | apply TakeA.next)); done)))) | fail)); done) (waits0n_ok) ?_)
    | (refine G.call 36 ?_; apply Tr.callC ?_ (waits0e_ok) ?_)
    | (refine G.call 37 ?_; refine Tr.callC (by (repeat (first | exact TakeL.nil | (apply TakeL.cons; focus ((first | ((repeat (first | with_reducible exact TakeA.here | with_reducible apply TakeA.next)); done) | ((repeat (first | exact TakeA.here | apply TakeA.next)); done)))) | fail)); done) (release_ok _ _ _ ?_) ?_)
    | (refine G.call 37 ?_; refine Tr.callC (by (repeat (first | exact TakeL.nil | (apply TakeL.cons; focus ((first | ((repeat (first | with_reducible exact TakeA.here | with_reducible apply TakeA.next)); done) | ((repeat (first | exact TakeA.here | apply TakeA.next)); done)))) | fail)); done) (release0n_ok) ?_)
    | (refine G.call 37 ?_; apply Tr.callC ?_ (release0e_ok) ?_)
    | (refine G.call 23 ?_; refine Tr.callC (by (repeat (first | exact TakeL.nil | (apply TakeL.cons; focus ((first | ((repeat (first | with_reducible exact TakeA.here | with_reducible apply TakeA.next)); done) | ((repeat (first | exact TakeA.here | apply TakeA.next)); done)))) | fail)); done) (len_ok _ _) ?_)
    | (refine G.call 23 ?_; refine Tr.callC (by (repeat (first | exact TakeL.nil | (apply TakeL.cons; focus ((first | ((repeat (first | with_reducible exact TakeA.here | with_reducible apply TakeA.next)); done) | ((repeat (first | exact TakeA.here | apply TakeA.next)); done)))) | fail)); done) (len0n_ok) ?_)
    | (refine G.call 23 ?_; apply Tr.callC ?_ (len0e_ok) ?_)
    | (refine G.call 29 ?_; refine Tr.callC (by (repeat (first | exact TakeL.nil | (apply TakeL.cons; focus ((first | ((repeat (first | with_reducible exact TakeA.here | with_reducible apply TakeA.next)); done) | ((repeat (first | exact TakeA.here | apply TakeA.next)); done)))) | fail)); done) (state_ok _ _ _) ?_)
    | (refine G.call 29 ?_; refine Tr.callC (by (repeat (first | exact TakeL.nil | (apply TakeL.cons; focus ((first | ((repeat (first | with_reducible exact TakeA.here | with_reducible apply TakeA.next)); done) | ((repeat (first | exact TakeA.here | apply TakeA.next)); done)))) | fail)); done) (state0n_ok) ?_)
    | (refine G.call 29 ?_; apply Tr.callC ?_ (state0e_ok) ?_)
    | (refine G.call 30 ?_; refine Tr.callC (by (repeat (first | exact TakeL.nil | (apply TakeL.cons; focus ((first | ((repeat (first | with_reducible exact TakeA.here | with_reducible apply TakeA.next)); done) | ((repeat (first | exact TakeA.here | apply TakeA.next)); done)))) | fail)); done) (prio_ok _ _ _) ?_)
    | (refine G.call 30 ?_; refine Tr.callC (by (repeat (first | exact TakeL.nil | (apply TakeL.cons; focus ((first | ((repeat (first | with_reducible exact TakeA.here | with_reducible apply TakeA.next)); done) | ((repeat (first | exact TakeA.here | apply TakeA.next)); done)))) | fail)); done) (prio0n_ok) ?_)
    | (refine G.call 30 ?_; apply Tr.callC ?_ (prio0e_ok) ?_)
    | (refine G.call 38 ?_; refine Tr.callC (by (repeat (first | exact TakeL.nil | (apply TakeL.cons; focus ((first | ((repeat (first | with_reducible exact TakeA.here | with_reducible apply TakeA.next)); done) | ((repeat (first | exact TakeA.here | apply TakeA.next)); done)))) | fail)); done) (due_ok _ _ _ ?_) ?_)
    | (refine G.call 38 ?_; refine Tr.callC (by (repeat (first | exact TakeL.nil | (apply TakeL.cons; focus ((first | ((repeat (first | with_reducible exact TakeA.here | with_reducible apply TakeA.next)); done) | ((repeat (first | exact TakeA.here | apply TakeA.next)); done)))) | fail)); done) (due0n_ok) ?_)
    | (refine G.call 38 ?_; apply Tr.callC ?_ (due0e_ok) ?_)
    | (refine G.call 39 ?_; refine Tr.callC (by (repeat (first | exact TakeL.nil | (apply TakeL.cons; focus ((first | ((repeat (first | with_reducible exact TakeA.here | with_reducible apply TakeA.next)); done) | ((repeat (first | exact TakeA.here | apply TakeA.next)); done)))) | fail)); done) (start_ok _ _ _ _) ?_)
    | (refine G.call 39 ?_; refine Tr.callC (by (repeat (first | exact TakeL.nil | (apply TakeL.cons; focus ((first | ((repeat (first | with_reducible exact TakeA.here | with_reducible apply TakeA.next)); done) | ((repeat (first | exact TakeA.here | apply TakeA.next)); done)))) | fail)); done) (start0n_ok) ?_)
    | (refine G.call 39 ?_; apply Tr.callC ?_ (start0e_ok) ?_)
    | (refine G.call 26 ?_; refine Tr.callC (by (repeat (first | exact TakeL.nil | (apply TakeL.cons; focus ((first | ((repeat (first | with_reducible exact TakeA.here | with_reducible apply TakeA.next)); done) | ((repeat (first | exact TakeA.here | apply TakeA.next)); done)))) | fail)); done) (set_ok _ _ _ _) ?_)
    | (refine G.call 26 ?_; refine Tr.callC (by (repeat (first | exact TakeL.nil | (apply TakeL.cons; focus ((first | ((repeat (first | with_reducible exact TakeA.here | with_reducible apply TakeA.next)); done) | ((repeat (first | exact TakeA.here | apply TakeA.next)); done)))) | fail)); done) (set0n_ok) ?_)
    | (refine G.call 26 ?_; apply Tr.callC ?_ (set0e_ok) ?_)
    | (refine G.call 40 ?_; refine Tr.callC (by (repeat (first | exact TakeL.nil | (apply TakeL.cons; focus ((first | ((repeat (first | with_reducible exact TakeA.here | with_reducible apply TakeA.next)); done) | ((repeat (first | exact TakeA.here | apply TakeA.next)); done)))) | fail)); done) (wait_ok _ _ _ _ _ _) ?_)
    | (refine G.call 40 ?_; refine Tr.callC (by (repeat (first | exact TakeL.nil | (apply TakeL.cons; focus ((first | ((repeat (first | with_reducible exact TakeA.here | with_reducible apply TakeA.next)); done) | ((repeat (first | exact TakeA.here | apply TakeA.next)); done)))) | fail)); done) (wait0n_ok) ?_)
    | (refine G.call 40 ?_; apply Tr.callC ?_ (wait0e_ok) ?_)
    | (refine G.call 27 ?_; refine Tr.callC (by (repeat (first | exact TakeL.nil | (apply TakeL.cons; focus ((first | ((repeat (first | with_reducible exact TakeA.here | with_reducible apply TakeA.next)); done) | ((repeat (first | exact TakeA.here | apply TakeA.next)); done)))) | fail)); done) (rank_ok _ _ _ _) ?_)
    | (refine G.call 27 ?_; refine Tr.callC (by (repeat (first | exact TakeL.nil | (apply TakeL.cons; focus ((first | ((repeat (first | with_reducible exact TakeA.here | with_reducible apply TakeA.next)); done) | ((repeat (first | exact TakeA.here | apply TakeA.next)); done)))) | fail)); done) (rank0n_ok) ?_)
    | (refine G.call 27 ?_; apply Tr.callC ?_ (rank0e_ok) ?_)
    | (refine G.call 41 ?_; refine Tr.callC (by (repeat (first | exact TakeL.nil | (apply TakeL.cons; focus ((first | ((repeat (first | with_reducible exact TakeA.here | with_reducible apply TakeA.next)); done) | ((repeat (first | exact TakeA.here | apply TakeA.next)); done)))) | fail)); done) (park_ok _ _ _) ?_)
    | (refine G.call 41 ?_; refine Tr.callC (by (repeat (first | exact TakeL.nil | (apply TakeL.cons; focus ((first | ((repeat (first | with_reducible exact TakeA.here | with_reducible apply TakeA.next)); done) | ((repeat (first | exact TakeA.here | apply TakeA.next)); done)))) | fail)); done) (park0n_ok) ?_)
    | (refine G.call 41 ?_; apply Tr.callC ?_ (park0e_ok) ?_)
    | (refine G.call 28 ?_; refine Tr.callC (by (repeat (first | exact TakeL.nil | (apply TakeL.cons; focus ((first | ((repeat (first | with_reducible exact TakeA.here | with_reducible apply TakeA.next)); done) | ((repeat (first | exact TakeA.here | apply TakeA.next)); done)))) | fail)); done) (pick_ok _ _ ?_) ?_)
    | (refine G.call 28 ?_; refine Tr.callC (by (repeat (first | exact TakeL.nil | (apply TakeL.cons; focus ((first | ((repeat (first | with_reducible exact TakeA.here | with_reducible apply TakeA.next)); done) | ((repeat (first | exact TakeA.here | apply TakeA.next)); done)))) | fail)); done) (pick0n_ok) ?_)
    | (refine G.call 28 ?_; apply Tr.callC ?_ (pick0e_ok) ?_)
    | (refine G.call 42 ?_; refine Tr.callC (by (repeat (first | exact TakeL.nil | (apply TakeL.cons; focus ((first | ((repeat (first | with_reducible exact TakeA.here | with_reducible apply TakeA.next)); done) | ((repeat (first | exact TakeA.here | apply TakeA.next)); done)))) | fail)); done) (first_ok _ _ _ _ ?_) ?_)
    | (refine G.call 42 ?_; refine Tr.callC (by (repeat (first | exact TakeL.nil | (apply TakeL.cons; focus ((first | ((repeat (first | with_reducible exact TakeA.here | with_reducible apply TakeA.next)); done) | ((repeat (first | exact TakeA.here | apply TakeA.next)); done)))) | fail)); done) (first0n_ok) ?_)
    | (refine G.call 42 ?_; apply Tr.callC ?_ (first0e_ok) ?_)
    | (refine G.call 24 ?_; apply Tr.callC ?_ (works21_ok) ?_)
    | with_reducible exact TakeL.nil
    | with_reducible apply TakeL.cons
    | rintro _ _ ⟨rfl, rfl⟩
    | rintro _ _ ⟨_, rfl, rfl⟩
    | rintro _ _ ⟨_, _, rfl, rfl⟩
    | (refine G.app ?_; first | refine A.app0 (by rfl) (by decide) (by first | omega | assumption | (simp only [WKl]; omega)) fun _ => ?_ | refine A.app (by rfl) (by decide) (by first | omega | assumption | (simp only [WKl]; omega)) fun _ => ?_)
    | (refine G.bs ?_; first | refine Tr.buildNil rfl fun _ => ?_ | refine Tr.build1 _ rfl rfl (by decide) fun _ => ?_)
    | (refine G.cut ?_; refine A.cutTo (by rfl) (by omega) (by omega) fun _ => ?_)
    | (refine G.look ?_; first | refine A.look ?_ | refine Tr.lookupNil ?_)
    | (refine G.mapu ?_; refine A.mapu ?_)
    | refine Tr.makeMap fun _ => ?_
    | (refine G.rem ?_; refine Tr.rem (by omega) ?_)
    | (refine G.prop ?_; first | omega | assumption | exact Nat.le_of_ble_eq_true rfl)
    | ((apply G.take; first | ((repeat (first | with_reducible exact TakeA.here | with_reducible apply TakeA.next)); done) | ((repeat (first | exact TakeA.here | apply TakeA.next)); done)))) <;> (try simp only [WKb, ↓reduceIte, Nat.reduceEqDiff]))))
  rename_i c b
  refine Tr.buildSlice (α := Pt) (xs := [⟨none⟩, ⟨some b⟩]) (d := ⟨none⟩) rfl rfl (by decide) rfl fun s0 => ?_
  ((try simp only [WKb, ↓reduceIte]) <;> (repeat' ((first
    | (refine G.load ?_; first | refine A.ldW (by rfl) ?_ | refine A.ld1 (by rfl) ?_ | refine A.ldN (by rfl) (by rfl) ?_ | refine A.lS0 (by assumption) (by rfl) ?_ | refine A.lS1 (by assumption) (by rfl) ?_ | refine A.lSW (by assumption) (by rfl) ?_ | refine A.lSN (by assumption) (by rfl) (by rfl) ?_)
    | refine Tr.drewK ?_
    | refine Tr.eqR rfl ?_
    | refine Tr.box rfl fun _ => ?_
    | refine Tr.alloc rfl fun _ => ?_
    | refine Tr.build rfl ?_
    | (refine G.store ?_; first | refine A.stW (by rfl) (by rfl) (by rfl) (by rfl) ?_ | refine A.st (by rfl) (by rfl) (by rfl) (by first | exact Nat.le_of_ble_eq_true rfl | (simp only [WKl, setL_length, En.len]; omega)) ?_ | refine A.stE (by rfl) (by first | omega | assumption | (simp only [WKl]; omega)) (by first | omega | assumption | (simp only [WKl]; omega)) ?_)
    | (refine G.cond ?_; first | refine Tr.condT (by first | rfl | assumption | (simp only [WKs]; omega)) ?_ | refine Tr.condF (by first | rfl | assumption | (simp only [WKs]; omega)) ?_ | (refine Tr.condS (fun hb => ?_) (fun hb => ?_) <;> ((try simp only [hb]) <;> (try (have hp := hb; simp only [WKs] at hp; (try have hq := Int.not_le.2 hp); (try have hq := Int.not_lt.2 hp))))))
    | (refine G.guard ?_; first | (refine Tr.guardTT (by first | rfl | assumption | (simp only [WKs]; omega)) (fun hb => ?_) <;> (try simp only [hb])) | (refine Tr.guardFF (by first | rfl | assumption | (simp only [WKs]; omega)) (fun hb => ?_) <;> (try simp only [hb])) | (refine Tr.guardS (fun hb => ?_) (fun hb => ?_) <;> ((try simp only [hb]) <;> (try (have hp := hb; simp only [WKs] at hp; (try have hq := Int.not_le.2 hp); (try have hq := Int.not_lt.2 hp))))))
    | (refine G.guardC ?_; refine Tr.guardCS (fun hb => ?_) (fun hb => ?_) <;> ((try simp only [hb]) <;> (try (have hp := hb; simp only [WKs] at hp; (try have hq := Int.not_le.2 hp); (try have hq := Int.not_lt.2 hp)))))
    | (refine G.idx ?_; first | refine Tr.indexArr (by omega) (by omega) ?_ | refine A.idx (by rfl) (by first | omega | assumption | (simp only [WKl]; omega)) (by first | omega | assumption | (simp only [WKl]; omega)) fun hix => ?_)
    | (refine G.len ?_; first | refine A.len ?_ | refine A.lenM ?_ | refine Tr.lenMapNil ?_)
    | (refine G.call 25 ?_; refine Tr.callC (by (repeat (first | exact TakeL.nil | (apply TakeL.cons; focus ((first | ((repeat (first | with_reducible exact TakeA.here | with_reducible apply TakeA.next)); done) | ((repeat (first | exact TakeA.here | apply TakeA.next)); done)))) | fail)); done) (free_ok _ _ ?_) ?_)
    | (refine G.call 25 ?_; refine Tr.callC (by (repeat (first | exact TakeL.nil | (apply TakeL.cons; focus ((first | ((repeat (first | with_reducible exact TakeA.here | with_reducible apply TakeA.next)); done) | ((repeat (first | exact TakeA.here | apply TakeA.next)); done)))) | fail)); done) (free0n_ok) ?_)
    | (refine G.call 25 ?_; apply Tr.callC ?_ (free0e_ok) ?_)
    | (refine G.call 36 ?_; refine Tr.callC (by (repeat (first | exact TakeL.nil | (apply TakeL.cons; focus ((first | ((repeat (first | with_reducible exact TakeA.here | with_reducible apply TakeA.next)); done) | ((repeat (first | exact TakeA.here | apply TakeA.next)); done)))) | fail)); done) (waits_ok _ _ _) ?_)
    | (refine G.call 36 ?_; refine Tr.callC (by (repeat (first | exact TakeL.nil | (apply TakeL.cons; focus ((first | ((repeat (first | with_reducible exact TakeA.here | with_reducible apply TakeA.next)); done) | ((repeat (first | exact TakeA.here | apply TakeA.next)); done)))) | fail)); done) (waits0n_ok) ?_)
    | (refine G.call 36 ?_; apply Tr.callC ?_ (waits0e_ok) ?_)
    | (refine G.call 37 ?_; refine Tr.callC (by (repeat (first | exact TakeL.nil | (apply TakeL.cons; focus ((first | ((repeat (first | with_reducible exact TakeA.here | with_reducible apply TakeA.next)); done) | ((repeat (first | exact TakeA.here | apply TakeA.next)); done)))) | fail)); done) (release_ok _ _ _ ?_) ?_)
    | (refine G.call 37 ?_; refine Tr.callC (by (repeat (first | exact TakeL.nil | (apply TakeL.cons; focus ((first | ((repeat (first | with_reducible exact TakeA.here | with_reducible apply TakeA.next)); done) | ((repeat (first | exact TakeA.here | apply TakeA.next)); done)))) | fail)); done) (release0n_ok) ?_)
    | (refine G.call 37 ?_; apply Tr.callC ?_ (release0e_ok) ?_)
    | (refine G.call 23 ?_; refine Tr.callC (by (repeat (first | exact TakeL.nil | (apply TakeL.cons; focus ((first | ((repeat (first | with_reducible exact TakeA.here | with_reducible apply TakeA.next)); done) | ((repeat (first | exact TakeA.here | apply TakeA.next)); done)))) | fail)); done) (len_ok _ _) ?_)
    | (refine G.call 23 ?_; refine Tr.callC (by (repeat (first | exact TakeL.nil | (apply TakeL.cons; focus ((first | ((repeat (first | with_reducible exact TakeA.here | with_reducible apply TakeA.next)); done) | ((repeat (first | exact TakeA.here | apply TakeA.next)); done)))) | fail)); done) (len0n_ok) ?_)
    | (refine G.call 23 ?_; apply Tr.callC ?_ (len0e_ok) ?_)
    | (refine G.call 29 ?_; refine Tr.callC (by (repeat (first | exact TakeL.nil | (apply TakeL.cons; focus ((first | ((repeat (first | with_reducible exact TakeA.here | with_reducible apply TakeA.next)); done) | ((repeat (first | exact TakeA.here | apply TakeA.next)); done)))) | fail)); done) (state_ok _ _ _) ?_)
    | (refine G.call 29 ?_; refine Tr.callC (by (repeat (first | exact TakeL.nil | (apply TakeL.cons; focus ((first | ((repeat (first | with_reducible exact TakeA.here | with_reducible apply TakeA.next)); done) | ((repeat (first | exact TakeA.here | apply TakeA.next)); done)))) | fail)); done) (state0n_ok) ?_)
    | (refine G.call 29 ?_; apply Tr.callC ?_ (state0e_ok) ?_)
    | (refine G.call 30 ?_; refine Tr.callC (by (repeat (first | exact TakeL.nil | (apply TakeL.cons; focus ((first | ((repeat (first | with_reducible exact TakeA.here | with_reducible apply TakeA.next)); done) | ((repeat (first | exact TakeA.here | apply TakeA.next)); done)))) | fail)); done) (prio_ok _ _ _) ?_)
    | (refine G.call 30 ?_; refine Tr.callC (by (repeat (first | exact TakeL.nil | (apply TakeL.cons; focus ((first | ((repeat (first | with_reducible exact TakeA.here | with_reducible apply TakeA.next)); done) | ((repeat (first | exact TakeA.here | apply TakeA.next)); done)))) | fail)); done) (prio0n_ok) ?_)
    | (refine G.call 30 ?_; apply Tr.callC ?_ (prio0e_ok) ?_)
    | (refine G.call 38 ?_; refine Tr.callC (by (repeat (first | exact TakeL.nil | (apply TakeL.cons; focus ((first | ((repeat (first | with_reducible exact TakeA.here | with_reducible apply TakeA.next)); done) | ((repeat (first | exact TakeA.here | apply TakeA.next)); done)))) | fail)); done) (due_ok _ _ _ ?_) ?_)
    | (refine G.call 38 ?_; refine Tr.callC (by (repeat (first | exact TakeL.nil | (apply TakeL.cons; focus ((first | ((repeat (first | with_reducible exact TakeA.here | with_reducible apply TakeA.next)); done) | ((repeat (first | exact TakeA.here | apply TakeA.next)); done)))) | fail)); done) (due0n_ok) ?_)
    | (refine G.call 38 ?_; apply Tr.callC ?_ (due0e_ok) ?_)
    | (refine G.call 39 ?_; refine Tr.callC (by (repeat (first | exact TakeL.nil | (apply TakeL.cons; focus ((first | ((repeat (first | with_reducible exact TakeA.here | with_reducible apply TakeA.next)); done) | ((repeat (first | exact TakeA.here | apply TakeA.next)); done)))) | fail)); done) (start_ok _ _ _ _) ?_)
    | (refine G.call 39 ?_; refine Tr.callC (by (repeat (first | exact TakeL.nil | (apply TakeL.cons; focus ((first | ((repeat (first | with_reducible exact TakeA.here | with_reducible apply TakeA.next)); done) | ((repeat (first | exact TakeA.here | apply TakeA.next)); done)))) | fail)); done) (start0n_ok) ?_)
    | (refine G.call 39 ?_; apply Tr.callC ?_ (start0e_ok) ?_)
    | (refine G.call 26 ?_; refine Tr.callC (by (repeat (first | exact TakeL.nil | (apply TakeL.cons; focus ((first | ((repeat (first | with_reducible exact TakeA.here | with_reducible apply TakeA.next)); done) | ((repeat (first | exact TakeA.here | apply TakeA.next)); done)))) | fail)); done) (set_ok _ _ _ _) ?_)
    | (refine G.call 26 ?_; refine Tr.callC (by (repeat (first | exact TakeL.nil | (apply TakeL.cons; focus ((first | ((repeat (first | with_reducible exact TakeA.here | with_reducible apply TakeA.next)); done) | ((repeat (first | exact TakeA.here | apply TakeA.next)); done)))) | fail)); done) (set0n_ok) ?_)
    | (refine G.call 26 ?_; apply Tr.callC ?_ (set0e_ok) ?_)
    | (refine G.call 40 ?_; refine Tr.callC (by (repeat (first | exact TakeL.nil | (apply TakeL.cons; focus ((first | ((repeat (first | with_reducible exact TakeA.here | with_reducible apply TakeA.next)); done) | ((repeat (first | exact TakeA.here | apply TakeA.next)); done)))) | fail)); done) (wait_ok _ _ _ _ _ _) ?_)
    | (refine G.call 40 ?_; refine Tr.callC (by (repeat (first | exact TakeL.nil | (apply TakeL.cons; focus ((first | ((repeat (first | with_reducible exact TakeA.here | with_reducible apply TakeA.next)); done) | ((repeat (first | exact TakeA.here | apply TakeA.next)); done)))) | fail)); done) (wait0n_ok) ?_)
    | (refine G.call 40 ?_; apply Tr.callC ?_ (wait0e_ok) ?_)
    | (refine G.call 27 ?_; refine Tr.callC (by (repeat (first | exact TakeL.nil | (apply TakeL.cons; focus ((first | ((repeat (first | with_reducible exact TakeA.here | with_reducible apply TakeA.next)); done) | ((repeat (first | exact TakeA.here | apply TakeA.next)); done)))) | fail)); done) (rank_ok _ _ _ _) ?_)
    | (refine G.call 27 ?_; refine Tr.callC (by (repeat (first | exact TakeL.nil | (apply TakeL.cons; focus ((first | ((repeat (first | with_reducible exact TakeA.here | with_reducible apply TakeA.next)); done) | ((repeat (first | exact TakeA.here | apply TakeA.next)); done)))) | fail)); done) (rank0n_ok) ?_)
    | (refine G.call 27 ?_; apply Tr.callC ?_ (rank0e_ok) ?_)
    | (refine G.call 41 ?_; refine Tr.callC (by (repeat (first | exact TakeL.nil | (apply TakeL.cons; focus ((first | ((repeat (first | with_reducible exact TakeA.here | with_reducible apply TakeA.next)); done) | ((repeat (first | exact TakeA.here | apply TakeA.next)); done)))) | fail)); done) (park_ok _ _ _) ?_)
    | (refine G.call 41 ?_; refine Tr.callC (by (repeat (first | exact TakeL.nil | (apply TakeL.cons; focus ((first | ((repeat (first | with_reducible exact TakeA.here | with_reducible apply TakeA.next)); done) | ((repeat (first | exact TakeA.here | apply TakeA.next)); done)))) | fail)); done) (park0n_ok) ?_)
    | (refine G.call 41 ?_; apply Tr.callC ?_ (park0e_ok) ?_)
    | (refine G.call 28 ?_; refine Tr.callC (by (repeat (first | exact TakeL.nil | (apply TakeL.cons; focus ((first | ((repeat (first | with_reducible exact TakeA.here | with_reducible apply TakeA.next)); done) | ((repeat (first | exact TakeA.here | apply TakeA.next)); done)))) | fail)); done) (pick_ok _ _ ?_) ?_)
    | (refine G.call 28 ?_; refine Tr.callC (by (repeat (first | exact TakeL.nil | (apply TakeL.cons; focus ((first | ((repeat (first | with_reducible exact TakeA.here | with_reducible apply TakeA.next)); done) | ((repeat (first | exact TakeA.here | apply TakeA.next)); done)))) | fail)); done) (pick0n_ok) ?_)
    | (refine G.call 28 ?_; apply Tr.callC ?_ (pick0e_ok) ?_)
    | (refine G.call 42 ?_; refine Tr.callC (by (repeat (first | exact TakeL.nil | (apply TakeL.cons; focus ((first | ((repeat (first | with_reducible exact TakeA.here | with_reducible apply TakeA.next)); done) | ((repeat (first | exact TakeA.here | apply TakeA.next)); done)))) | fail)); done) (first_ok _ _ _ _ ?_) ?_)
    | (refine G.call 42 ?_; refine Tr.callC (by (repeat (first | exact TakeL.nil | (apply TakeL.cons; focus ((first | ((repeat (first | with_reducible exact TakeA.here | with_reducible apply TakeA.next)); done) | ((repeat (first | exact TakeA.here | apply TakeA.next)); done)))) | fail)); done) (first0n_ok) ?_)
    | (refine G.call 42 ?_; apply Tr.callC ?_ (first0e_ok) ?_)
    | (refine G.call 24 ?_; apply Tr.callC ?_ (works21_ok) ?_)
    | with_reducible exact TakeL.nil
    | with_reducible apply TakeL.cons
    | rintro _ _ ⟨rfl, rfl⟩
    | rintro _ _ ⟨_, rfl, rfl⟩
    | rintro _ _ ⟨_, _, rfl, rfl⟩
    | (refine G.app ?_; first | refine A.app0 (by rfl) (by decide) (by first | omega | assumption | (simp only [WKl]; omega)) fun _ => ?_ | refine A.app (by rfl) (by decide) (by first | omega | assumption | (simp only [WKl]; omega)) fun _ => ?_)
    | (refine G.bs ?_; first | refine Tr.buildNil rfl fun _ => ?_ | refine Tr.build1 _ rfl rfl (by decide) fun _ => ?_)
    | (refine G.cut ?_; refine A.cutTo (by rfl) (by omega) (by omega) fun _ => ?_)
    | (refine G.look ?_; first | refine A.look ?_ | refine Tr.lookupNil ?_)
    | (refine G.mapu ?_; refine A.mapu ?_)
    | refine Tr.makeMap fun _ => ?_
    | (refine G.rem ?_; refine Tr.rem (by omega) ?_)
    | (refine G.prop ?_; first | omega | assumption | exact Nat.le_of_ble_eq_true rfl)
    | ((apply G.take; first | ((repeat (first | with_reducible exact TakeA.here | with_reducible apply TakeA.next)); done) | ((repeat (first | exact TakeA.here | apply TakeA.next)); done)))) <;> (try simp only [WKb, ↓reduceIte, Nat.reduceEqDiff, Nat.reduceAdd, Nat.reduceSub, Int.reduceEq, Int.reduceLT, Int.reduceLE, pl8]))))
  refine Tr.loopE (α := Nat) [2, 5] [1, 4] (fun k => [.bool false, .int .i64 k]) (fun _ => [sl false s0.v [Pt.mk none, Pt.mk (some b)], tabE b, blk c (.cells (En.enc a).toArray 48 (0, 0))]) (fun k => k ≤ 2) (fun k => 2 - k) 0 (by (repeat (first | exact TakeL.nil | apply TakeL.cons (by (repeat (first | exact TakeA.here | apply TakeA.next)); done))); done) rfl (by omega) fun k u hk => ?_
  have h3 : k = 0 ∨ k = 1 ∨ k = 2 := by omega
  rcases h3 with rfl | rfl | rfl
  · ((try simp only [WKb, ↓reduceIte, Nat.reduceEqDiff]) <;> (repeat' ((first
    | (refine G.load ?_; first | refine A.ldW (by rfl) ?_ | refine A.ld1 (by rfl) ?_ | refine A.ldN (by rfl) (by rfl) ?_ | refine A.lS0 (by assumption) (by rfl) ?_ | refine A.lS1 (by assumption) (by rfl) ?_ | refine A.lSW (by assumption) (by rfl) ?_ | refine A.lSN (by assumption) (by rfl) (by rfl) ?_)
    | refine Tr.drewK ?_
    | refine Tr.eqR rfl ?_
    | refine Tr.box rfl fun _ => ?_
    | refine Tr.alloc rfl fun _ => ?_
    | refine Tr.build rfl ?_
    | (refine G.store ?_; first | refine A.stW (by rfl) (by rfl) (by rfl) (by rfl) ?_ | refine A.st (by rfl) (by rfl) (by rfl) (by first | exact Nat.le_of_ble_eq_true rfl | (simp only [WKl, setL_length, En.len]; omega)) ?_ | refine A.stE (by rfl) (by first | omega | assumption | (simp only [WKl]; omega)) (by first | omega | assumption | (simp only [WKl]; omega)) ?_)
    | (refine G.cond ?_; first | refine Tr.condT (by first | rfl | assumption | (simp only [WKs]; omega)) ?_ | refine Tr.condF (by first | rfl | assumption | (simp only [WKs]; omega)) ?_ | (refine Tr.condS (fun hb => ?_) (fun hb => ?_) <;> ((try simp only [hb]) <;> (try (have hp := hb; simp only [WKs] at hp; (try have hq := Int.not_le.2 hp); (try have hq := Int.not_lt.2 hp))))))
    | (refine G.guard ?_; first | (refine Tr.guardTT (by first | rfl | assumption | (simp only [WKs]; omega)) (fun hb => ?_) <;> (try simp only [hb])) | (refine Tr.guardFF (by first | rfl | assumption | (simp only [WKs]; omega)) (fun hb => ?_) <;> (try simp only [hb])) | (refine Tr.guardS (fun hb => ?_) (fun hb => ?_) <;> ((try simp only [hb]) <;> (try (have hp := hb; simp only [WKs] at hp; (try have hq := Int.not_le.2 hp); (try have hq := Int.not_lt.2 hp))))))
    | (refine G.guardC ?_; refine Tr.guardCS (fun hb => ?_) (fun hb => ?_) <;> ((try simp only [hb]) <;> (try (have hp := hb; simp only [WKs] at hp; (try have hq := Int.not_le.2 hp); (try have hq := Int.not_lt.2 hp)))))
    | (refine G.idx ?_; first | refine Tr.indexArr (by omega) (by omega) ?_ | refine A.idx (by rfl) (by first | omega | assumption | (simp only [WKl]; omega)) (by first | omega | assumption | (simp only [WKl]; omega)) fun hix => ?_)
    | (refine G.len ?_; first | refine A.len ?_ | refine A.lenM ?_ | refine Tr.lenMapNil ?_)
    | (refine G.call 25 ?_; refine Tr.callC (by (repeat (first | exact TakeL.nil | (apply TakeL.cons; focus ((first | ((repeat (first | with_reducible exact TakeA.here | with_reducible apply TakeA.next)); done) | ((repeat (first | exact TakeA.here | apply TakeA.next)); done)))) | fail)); done) (free_ok _ _ ?_) ?_)
    | (refine G.call 25 ?_; refine Tr.callC (by (repeat (first | exact TakeL.nil | (apply TakeL.cons; focus ((first | ((repeat (first | with_reducible exact TakeA.here | with_reducible apply TakeA.next)); done) | ((repeat (first | exact TakeA.here | apply TakeA.next)); done)))) | fail)); done) (free0n_ok) ?_)
    | (refine G.call 25 ?_; apply Tr.callC ?_ (free0e_ok) ?_)
    | (refine G.call 36 ?_; refine Tr.callC (by (repeat (first | exact TakeL.nil | (apply TakeL.cons; focus ((first | ((repeat (first | with_reducible exact TakeA.here | with_reducible apply TakeA.next)); done) | ((repeat (first | exact TakeA.here | apply TakeA.next)); done)))) | fail)); done) (waits_ok _ _ _) ?_)
    | (refine G.call 36 ?_; refine Tr.callC (by (repeat (first | exact TakeL.nil | (apply TakeL.cons; focus ((first | ((repeat (first | with_reducible exact TakeA.here | with_reducible apply TakeA.next)); done) | ((repeat (first | exact TakeA.here | apply TakeA.next)); done)))) | fail)); done) (waits0n_ok) ?_)
    | (refine G.call 36 ?_; apply Tr.callC ?_ (waits0e_ok) ?_)
    | (refine G.call 37 ?_; refine Tr.callC (by (repeat (first | exact TakeL.nil | (apply TakeL.cons; focus ((first | ((repeat (first | with_reducible exact TakeA.here | with_reducible apply TakeA.next)); done) | ((repeat (first | exact TakeA.here | apply TakeA.next)); done)))) | fail)); done) (release_ok _ _ _ ?_) ?_)
    | (refine G.call 37 ?_; refine Tr.callC (by (repeat (first | exact TakeL.nil | (apply TakeL.cons; focus ((first | ((repeat (first | with_reducible exact TakeA.here | with_reducible apply TakeA.next)); done) | ((repeat (first | exact TakeA.here | apply TakeA.next)); done)))) | fail)); done) (release0n_ok) ?_)
    | (refine G.call 37 ?_; apply Tr.callC ?_ (release0e_ok) ?_)
    | (refine G.call 23 ?_; refine Tr.callC (by (repeat (first | exact TakeL.nil | (apply TakeL.cons; focus ((first | ((repeat (first | with_reducible exact TakeA.here | with_reducible apply TakeA.next)); done) | ((repeat (first | exact TakeA.here | apply TakeA.next)); done)))) | fail)); done) (len_ok _ _) ?_)
    | (refine G.call 23 ?_; refine Tr.callC (by (repeat (first | exact TakeL.nil | (apply TakeL.cons; focus ((first | ((repeat (first | with_reducible exact TakeA.here | with_reducible apply TakeA.next)); done) | ((repeat (first | exact TakeA.here | apply TakeA.next)); done)))) | fail)); done) (len0n_ok) ?_)
    | (refine G.call 23 ?_; apply Tr.callC ?_ (len0e_ok) ?_)
    | (refine G.call 29 ?_; refine Tr.callC (by (repeat (first | exact TakeL.nil | (apply TakeL.cons; focus ((first | ((repeat (first | with_reducible exact TakeA.here | with_reducible apply TakeA.next)); done) | ((repeat (first | exact TakeA.here | apply TakeA.next)); done)))) | fail)); done) (state_ok _ _ _) ?_)
    | (refine G.call 29 ?_; refine Tr.callC (by (repeat (first | exact TakeL.nil | (apply TakeL.cons; focus ((first | ((repeat (first | with_reducible exact TakeA.here | with_reducible apply TakeA.next)); done) | ((repeat (first | exact TakeA.here | apply TakeA.next)); done)))) | fail)); done) (state0n_ok) ?_)
    | (refine G.call 29 ?_; apply Tr.callC ?_ (state0e_ok) ?_)
    | (refine G.call 30 ?_; refine Tr.callC (by (repeat (first | exact TakeL.nil | (apply TakeL.cons; focus ((first | ((repeat (first | with_reducible exact TakeA.here | with_reducible apply TakeA.next)); done) | ((repeat (first | exact TakeA.here | apply TakeA.next)); done)))) | fail)); done) (prio_ok _ _ _) ?_)
    | (refine G.call 30 ?_; refine Tr.callC (by (repeat (first | exact TakeL.nil | (apply TakeL.cons; focus ((first | ((repeat (first | with_reducible exact TakeA.here | with_reducible apply TakeA.next)); done) | ((repeat (first | exact TakeA.here | apply TakeA.next)); done)))) | fail)); done) (prio0n_ok) ?_)
    | (refine G.call 30 ?_; apply Tr.callC ?_ (prio0e_ok) ?_)
    | (refine G.call 38 ?_; refine Tr.callC (by (repeat (first | exact TakeL.nil | (apply TakeL.cons; focus ((first | ((repeat (first | with_reducible exact TakeA.here | with_reducible apply TakeA.next)); done) | ((repeat (first | exact TakeA.here | apply TakeA.next)); done)))) | fail)); done) (due_ok _ _ _ ?_) ?_)
    | (refine G.call 38 ?_; refine Tr.callC (by (repeat (first | exact TakeL.nil | (apply TakeL.cons; focus ((first | ((repeat (first | with_reducible exact TakeA.here | with_reducible apply TakeA.next)); done) | ((repeat (first | exact TakeA.here | apply TakeA.next)); done)))) | fail)); done) (due0n_ok) ?_)
    | (refine G.call 38 ?_; apply Tr.callC ?_ (due0e_ok) ?_)
    | (refine G.call 39 ?_; refine Tr.callC (by (repeat (first | exact TakeL.nil | (apply TakeL.cons; focus ((first | ((repeat (first | with_reducible exact TakeA.here | with_reducible apply TakeA.next)); done) | ((repeat (first | exact TakeA.here | apply TakeA.next)); done)))) | fail)); done) (start_ok _ _ _ _) ?_)
    | (refine G.call 39 ?_; refine Tr.callC (by (repeat (first | exact TakeL.nil | (apply TakeL.cons; focus ((first | ((repeat (first | with_reducible exact TakeA.here | with_reducible apply TakeA.next)); done) | ((repeat (first | exact TakeA.here | apply TakeA.next)); done)))) | fail)); done) (start0n_ok) ?_)
    | (refine G.call 39 ?_; apply Tr.callC ?_ (start0e_ok) ?_)
    | (refine G.call 26 ?_; refine Tr.callC (by (repeat (first | exact TakeL.nil | (apply TakeL.cons; focus ((first | ((repeat (first | with_reducible exact TakeA.here | with_reducible apply TakeA.next)); done) | ((repeat (first | exact TakeA.here | apply TakeA.next)); done)))) | fail)); done) (set_ok _ _ _ _) ?_)
    | (refine G.call 26 ?_; refine Tr.callC (by (repeat (first | exact TakeL.nil | (apply TakeL.cons; focus ((first | ((repeat (first | with_reducible exact TakeA.here | with_reducible apply TakeA.next)); done) | ((repeat (first | exact TakeA.here | apply TakeA.next)); done)))) | fail)); done) (set0n_ok) ?_)
    | (refine G.call 26 ?_; apply Tr.callC ?_ (set0e_ok) ?_)
    | (refine G.call 40 ?_; refine Tr.callC (by (repeat (first | exact TakeL.nil | (apply TakeL.cons; focus ((first | ((repeat (first | with_reducible exact TakeA.here | with_reducible apply TakeA.next)); done) | ((repeat (first | exact TakeA.here | apply TakeA.next)); done)))) | fail)); done) (wait_ok _ _ _ _ _ _) ?_)
    | (refine G.call 40 ?_; refine Tr.callC (by (repeat (first | exact TakeL.nil | (apply TakeL.cons; focus ((first | ((repeat (first | with_reducible exact TakeA.here | with_reducible apply TakeA.next)); done) | ((repeat (first | exact TakeA.here | apply TakeA.next)); done)))) | fail)); done) (wait0n_ok) ?_)
    | (refine G.call 40 ?_; apply Tr.callC ?_ (wait0e_ok) ?_)
    | (refine G.call 27 ?_; refine Tr.callC (by (repeat (first | exact TakeL.nil | (apply TakeL.cons; focus ((first | ((repeat (first | with_reducible exact TakeA.here | with_reducible apply TakeA.next)); done) | ((repeat (first | exact TakeA.here | apply TakeA.next)); done)))) | fail)); done) (rank_ok _ _ _ _) ?_)
    | (refine G.call 27 ?_; refine Tr.callC (by (repeat (first | exact TakeL.nil | (apply TakeL.cons; focus ((first | ((repeat (first | with_reducible exact TakeA.here | with_reducible apply TakeA.next)); done) | ((repeat (first | exact TakeA.here | apply TakeA.next)); done)))) | fail)); done) (rank0n_ok) ?_)
    | (refine G.call 27 ?_; apply Tr.callC ?_ (rank0e_ok) ?_)
    | (refine G.call 41 ?_; refine Tr.callC (by (repeat (first | exact TakeL.nil | (apply TakeL.cons; focus ((first | ((repeat (first | with_reducible exact TakeA.here | with_reducible apply TakeA.next)); done) | ((repeat (first | exact TakeA.here | apply TakeA.next)); done)))) | fail)); done) (park_ok _ _ _) ?_)
    | (refine G.call 41 ?_; refine Tr.callC (by (repeat (first | exact TakeL.nil | (apply TakeL.cons; focus ((first | ((repeat (first | with_reducible exact TakeA.here | with_reducible apply TakeA.next)); done) | ((repeat (first | exact TakeA.here | apply TakeA.next)); done)))) | fail)); done) (park0n_ok) ?_)
    | (refine G.call 41 ?_; apply Tr.callC ?_ (park0e_ok) ?_)
    | (refine G.call 28 ?_; refine Tr.callC (by (repeat (first | exact TakeL.nil | (apply TakeL.cons; focus ((first | ((repeat (first | with_reducible exact TakeA.here | with_reducible apply TakeA.next)); done) | ((repeat (first | exact TakeA.here | apply TakeA.next)); done)))) | fail)); done) (pick_ok _ _ ?_) ?_)
    | (refine G.call 28 ?_; refine Tr.callC (by (repeat (first | exact TakeL.nil | (apply TakeL.cons; focus ((first | ((repeat (first | with_reducible exact TakeA.here | with_reducible apply TakeA.next)); done) | ((repeat (first | exact TakeA.here | apply TakeA.next)); done)))) | fail)); done) (pick0n_ok) ?_)
    | (refine G.call 28 ?_; apply Tr.callC ?_ (pick0e_ok) ?_)
    | (refine G.call 42 ?_; refine Tr.callC (by (repeat (first | exact TakeL.nil | (apply TakeL.cons; focus ((first | ((repeat (first | with_reducible exact TakeA.here | with_reducible apply TakeA.next)); done) | ((repeat (first | exact TakeA.here | apply TakeA.next)); done)))) | fail)); done) (first_ok _ _ _ _ ?_) ?_)
    | (refine G.call 42 ?_; refine Tr.callC (by (repeat (first | exact TakeL.nil | (apply TakeL.cons; focus ((first | ((repeat (first | with_reducible exact TakeA.here | with_reducible apply TakeA.next)); done) | ((repeat (first | exact TakeA.here | apply TakeA.next)); done)))) | fail)); done) (first0n_ok) ?_)
    | (refine G.call 42 ?_; apply Tr.callC ?_ (first0e_ok) ?_)
    | (refine G.call 24 ?_; apply Tr.callC ?_ (works21_ok) ?_)
    | with_reducible exact TakeL.nil
    | with_reducible apply TakeL.cons
    | rintro _ _ ⟨rfl, rfl⟩
    | rintro _ _ ⟨_, rfl, rfl⟩
    | rintro _ _ ⟨_, _, rfl, rfl⟩
    | (refine G.app ?_; first | refine A.app0 (by rfl) (by decide) (by first | omega | assumption | (simp only [WKl]; omega)) fun _ => ?_ | refine A.app (by rfl) (by decide) (by first | omega | assumption | (simp only [WKl]; omega)) fun _ => ?_)
    | (refine G.bs ?_; first | refine Tr.buildNil rfl fun _ => ?_ | refine Tr.build1 _ rfl rfl (by decide) fun _ => ?_)
    | (refine G.cut ?_; refine A.cutTo (by rfl) (by omega) (by omega) fun _ => ?_)
    | (refine G.look ?_; first | refine A.look ?_ | refine Tr.lookupNil ?_)
    | (refine G.mapu ?_; refine A.mapu ?_)
    | refine Tr.makeMap fun _ => ?_
    | (refine G.rem ?_; refine Tr.rem (by omega) ?_)
    | (refine G.prop ?_; first | omega | assumption | exact Nat.le_of_ble_eq_true rfl)
    | ((apply G.take; first | ((repeat (first | with_reducible exact TakeA.here | with_reducible apply TakeA.next)); done) | ((repeat (first | exact TakeA.here | apply TakeA.next)); done)))) <;> (try simp only [WKb, ↓reduceIte, Nat.reduceEqDiff, pl8, show ix [Pt.mk none, Pt.mk (some b)] ((0 : Nat) : Int) = Pt.mk none from rfl]))))
    all_goals (apply Tr.againE (1); (focus (simp only [WKb, ↓reduceIte, Nat.reduceEqDiff])); (focus ((try simp only [WKb, ↓reduceIte, Nat.reduceEqDiff, Nat.reduceAdd, Nat.reduceSub, hw]); (all_goals ((repeat (refine cons_eq (by first | rfl | (simp [*]; done)) ?_)); rfl)); done)); (focus (first | omega | assumption | (simp only []; omega) | (refine ⟨by omega, by assumption⟩) | (simp only []; refine ⟨by omega, by assumption⟩) | ((try simp only []); (repeat' (first | omega | assumption | refine And.intro ?_ ?_)); done))); (focus (first | omega | (simp only []; omega))); (focus (((try clear hK) <;> (try simp only [WKe, *]) <;> repeat (first
    | with_reducible exact EntR.done
    | (apply EntR.take; focus (first | ((repeat (first | with_reducible exact TakeA.here | with_reducible apply TakeA.next)); done) | ((repeat (first | exact TakeA.here | apply TakeA.next)); done)))
    | with_reducible refine EntR.sep ?_
    | with_reducible apply EntR.ex
    | with_reducible refine EntR.fact (by first | rfl | assumption | omega | simp) ?_
    | refine EntR.drop (F := F) ?_
    | refine EntR.drop ?_)))))
  · ((try simp only [WKb, ↓reduceIte, Nat.reduceEqDiff]) <;> (repeat' ((first
    | (refine G.load ?_; first | refine A.ldW (by rfl) ?_ | refine A.ld1 (by rfl) ?_ | refine A.ldN (by rfl) (by rfl) ?_ | refine A.lS0 (by assumption) (by rfl) ?_ | refine A.lS1 (by assumption) (by rfl) ?_ | refine A.lSW (by assumption) (by rfl) ?_ | refine A.lSN (by assumption) (by rfl) (by rfl) ?_)
    | refine Tr.drewK ?_
    | refine Tr.eqR rfl ?_
    | refine Tr.box rfl fun _ => ?_
    | refine Tr.alloc rfl fun _ => ?_
    | refine Tr.build rfl ?_
    | (refine G.store ?_; first | refine A.stW (by rfl) (by rfl) (by rfl) (by rfl) ?_ | refine A.st (by rfl) (by rfl) (by rfl) (by first | exact Nat.le_of_ble_eq_true rfl | (simp only [WKl, setL_length, En.len]; omega)) ?_ | refine A.stE (by rfl) (by first | omega | assumption | (simp only [WKl]; omega)) (by first | omega | assumption | (simp only [WKl]; omega)) ?_)
    | (refine G.cond ?_; first | refine Tr.condT (by first | rfl | assumption | (simp only [WKs]; omega)) ?_ | refine Tr.condF (by first | rfl | assumption | (simp only [WKs]; omega)) ?_ | (refine Tr.condS (fun hb => ?_) (fun hb => ?_) <;> ((try simp only [hb]) <;> (try (have hp := hb; simp only [WKs] at hp; (try have hq := Int.not_le.2 hp); (try have hq := Int.not_lt.2 hp))))))
    | (refine G.guard ?_; first | (refine Tr.guardTT (by first | rfl | assumption | (simp only [WKs]; omega)) (fun hb => ?_) <;> (try simp only [hb])) | (refine Tr.guardFF (by first | rfl | assumption | (simp only [WKs]; omega)) (fun hb => ?_) <;> (try simp only [hb])) | (refine Tr.guardS (fun hb => ?_) (fun hb => ?_) <;> ((try simp only [hb]) <;> (try (have hp := hb; simp only [WKs] at hp; (try have hq := Int.not_le.2 hp); (try have hq := Int.not_lt.2 hp))))))
    | (refine G.guardC ?_; refine Tr.guardCS (fun hb => ?_) (fun hb => ?_) <;> ((try simp only [hb]) <;> (try (have hp := hb; simp only [WKs] at hp; (try have hq := Int.not_le.2 hp); (try have hq := Int.not_lt.2 hp)))))
    | (refine G.idx ?_; first | refine Tr.indexArr (by omega) (by omega) ?_ | refine A.idx (by rfl) (by first | omega | assumption | (simp only [WKl]; omega)) (by first | omega | assumption | (simp only [WKl]; omega)) fun hix => ?_)
    | (refine G.len ?_; first | refine A.len ?_ | refine A.lenM ?_ | refine Tr.lenMapNil ?_)
    | (refine G.call 25 ?_; refine Tr.callC (by (repeat (first | exact TakeL.nil | (apply TakeL.cons; focus ((first | ((repeat (first | with_reducible exact TakeA.here | with_reducible apply TakeA.next)); done) | ((repeat (first | exact TakeA.here | apply TakeA.next)); done)))) | fail)); done) (free_ok _ _ ?_) ?_)
    | (refine G.call 25 ?_; refine Tr.callC (by (repeat (first | exact TakeL.nil | (apply TakeL.cons; focus ((first | ((repeat (first | with_reducible exact TakeA.here | with_reducible apply TakeA.next)); done) | ((repeat (first | exact TakeA.here | apply TakeA.next)); done)))) | fail)); done) (free0n_ok) ?_)
    | (refine G.call 25 ?_; apply Tr.callC ?_ (free0e_ok) ?_)
    | (refine G.call 36 ?_; refine Tr.callC (by (repeat (first | exact TakeL.nil | (apply TakeL.cons; focus ((first | ((repeat (first | with_reducible exact TakeA.here | with_reducible apply TakeA.next)); done) | ((repeat (first | exact TakeA.here | apply TakeA.next)); done)))) | fail)); done) (waits_ok _ _ _) ?_)
    | (refine G.call 36 ?_; refine Tr.callC (by (repeat (first | exact TakeL.nil | (apply TakeL.cons; focus ((first | ((repeat (first | with_reducible exact TakeA.here | with_reducible apply TakeA.next)); done) | ((repeat (first | exact TakeA.here | apply TakeA.next)); done)))) | fail)); done) (waits0n_ok) ?_)
    | (refine G.call 36 ?_; apply Tr.callC ?_ (waits0e_ok) ?_)
    | (refine G.call 37 ?_; refine Tr.callC (by (repeat (first | exact TakeL.nil | (apply TakeL.cons; focus ((first | ((repeat (first | with_reducible exact TakeA.here | with_reducible apply TakeA.next)); done) | ((repeat (first | exact TakeA.here | apply TakeA.next)); done)))) | fail)); done) (release_ok _ _ _ ?_) ?_)
    | (refine G.call 37 ?_; refine Tr.callC (by (repeat (first | exact TakeL.nil | (apply TakeL.cons; focus ((first | ((repeat (first | with_reducible exact TakeA.here | with_reducible apply TakeA.next)); done) | ((repeat (first | exact TakeA.here | apply TakeA.next)); done)))) | fail)); done) (release0n_ok) ?_)
    | (refine G.call 37 ?_; apply Tr.callC ?_ (release0e_ok) ?_)
    | (refine G.call 23 ?_; refine Tr.callC (by (repeat (first | exact TakeL.nil | (apply TakeL.cons; focus ((first | ((repeat (first | with_reducible exact TakeA.here | with_reducible apply TakeA.next)); done) | ((repeat (first | exact TakeA.here | apply TakeA.next)); done)))) | fail)); done) (len_ok _ _) ?_)
    | (refine G.call 23 ?_; refine Tr.callC (by (repeat (first | exact TakeL.nil | (apply TakeL.cons; focus ((first | ((repeat (first | with_reducible exact TakeA.here | with_reducible apply TakeA.next)); done) | ((repeat (first | exact TakeA.here | apply TakeA.next)); done)))) | fail)); done) (len0n_ok) ?_)
    | (refine G.call 23 ?_; apply Tr.callC ?_ (len0e_ok) ?_)
    | (refine G.call 29 ?_; refine Tr.callC (by (repeat (first | exact TakeL.nil | (apply TakeL.cons; focus ((first | ((repeat (first | with_reducible exact TakeA.here | with_reducible apply TakeA.next)); done) | ((repeat (first | exact TakeA.here | apply TakeA.next)); done)))) | fail)); done) (state_ok _ _ _) ?_)
    | (refine G.call 29 ?_; refine Tr.callC (by (repeat (first | exact TakeL.nil | (apply TakeL.cons; focus ((first | ((repeat (first | with_reducible exact TakeA.here | with_reducible apply TakeA.next)); done) | ((repeat (first | exact TakeA.here | apply TakeA.next)); done)))) | fail)); done) (state0n_ok) ?_)
    | (refine G.call 29 ?_; apply Tr.callC ?_ (state0e_ok) ?_)
    | (refine G.call 30 ?_; refine Tr.callC (by (repeat (first | exact TakeL.nil | (apply TakeL.cons; focus ((first | ((repeat (first | with_reducible exact TakeA.here | with_reducible apply TakeA.next)); done) | ((repeat (first | exact TakeA.here | apply TakeA.next)); done)))) | fail)); done) (prio_ok _ _ _) ?_)
    | (refine G.call 30 ?_; refine Tr.callC (by (repeat (first | exact TakeL.nil | (apply TakeL.cons; focus ((first | ((repeat (first | with_reducible exact TakeA.here | with_reducible apply TakeA.next)); done) | ((repeat (first | exact TakeA.here | apply TakeA.next)); done)))) | fail)); done) (prio0n_ok) ?_)
    | (refine G.call 30 ?_; apply Tr.callC ?_ (prio0e_ok) ?_)
    | (refine G.call 38 ?_; refine Tr.callC (by (repeat (first | exact TakeL.nil | (apply TakeL.cons; focus ((first | ((repeat (first | with_reducible exact TakeA.here | with_reducible apply TakeA.next)); done) | ((repeat (first | exact TakeA.here | apply TakeA.next)); done)))) | fail)); done) (due_ok _ _ _ ?_) ?_)
    | (refine G.call 38 ?_; refine Tr.callC (by (repeat (first | exact TakeL.nil | (apply TakeL.cons; focus ((first | ((repeat (first | with_reducible exact TakeA.here | with_reducible apply TakeA.next)); done) | ((repeat (first | exact TakeA.here | apply TakeA.next)); done)))) | fail)); done) (due0n_ok) ?_)
    | (refine G.call 38 ?_; apply Tr.callC ?_ (due0e_ok) ?_)
    | (refine G.call 39 ?_; refine Tr.callC (by (repeat (first | exact TakeL.nil | (apply TakeL.cons; focus ((first | ((repeat (first | with_reducible exact TakeA.here | with_reducible apply TakeA.next)); done) | ((repeat (first | exact TakeA.here | apply TakeA.next)); done)))) | fail)); done) (start_ok _ _ _ _) ?_)
    | (refine G.call 39 ?_; refine Tr.callC (by (repeat (first | exact TakeL.nil | (apply TakeL.cons; focus ((first | ((repeat (first | with_reducible exact TakeA.here | with_reducible apply TakeA.next)); done) | ((repeat (first | exact TakeA.here | apply TakeA.next)); done)))) | fail)); done) (start0n_ok) ?_)
    | (refine G.call 39 ?_; apply Tr.callC ?_ (start0e_ok) ?_)
    | (refine G.call 26 ?_; refine Tr.callC (by (repeat (first | exact TakeL.nil | (apply TakeL.cons; focus ((first | ((repeat (first | with_reducible exact TakeA.here | with_reducible apply TakeA.next)); done) | ((repeat (first | exact TakeA.here | apply TakeA.next)); done)))) | fail)); done) (set_ok _ _ _ _) ?_)
    | (refine G.call 26 ?_; refine Tr.callC (by (repeat (first | exact TakeL.nil | (apply TakeL.cons; focus ((first | ((repeat (first | with_reducible exact TakeA.here | with_reducible apply TakeA.next)); done) | ((repeat (first | exact TakeA.here | apply TakeA.next)); done)))) | fail)); done) (set0n_ok) ?_)
    | (refine G.call 26 ?_; apply Tr.callC ?_ (set0e_ok) ?_)
    | (refine G.call 40 ?_; refine Tr.callC (by (repeat (first | exact TakeL.nil | (apply TakeL.cons; focus ((first | ((repeat (first | with_reducible exact TakeA.here | with_reducible apply TakeA.next)); done) | ((repeat (first | exact TakeA.here | apply TakeA.next)); done)))) | fail)); done) (wait_ok _ _ _ _ _ _) ?_)
    | (refine G.call 40 ?_; refine Tr.callC (by (repeat (first | exact TakeL.nil | (apply TakeL.cons; focus ((first | ((repeat (first | with_reducible exact TakeA.here | with_reducible apply TakeA.next)); done) | ((repeat (first | exact TakeA.here | apply TakeA.next)); done)))) | fail)); done) (wait0n_ok) ?_)
    | (refine G.call 40 ?_; apply Tr.callC ?_ (wait0e_ok) ?_)
    | (refine G.call 27 ?_; refine Tr.callC (by (repeat (first | exact TakeL.nil | (apply TakeL.cons; focus ((first | ((repeat (first | with_reducible exact TakeA.here | with_reducible apply TakeA.next)); done) | ((repeat (first | exact TakeA.here | apply TakeA.next)); done)))) | fail)); done) (rank_ok _ _ _ _) ?_)
    | (refine G.call 27 ?_; refine Tr.callC (by (repeat (first | exact TakeL.nil | (apply TakeL.cons; focus ((first | ((repeat (first | with_reducible exact TakeA.here | with_reducible apply TakeA.next)); done) | ((repeat (first | exact TakeA.here | apply TakeA.next)); done)))) | fail)); done) (rank0n_ok) ?_)
    | (refine G.call 27 ?_; apply Tr.callC ?_ (rank0e_ok) ?_)
    | (refine G.call 41 ?_; refine Tr.callC (by (repeat (first | exact TakeL.nil | (apply TakeL.cons; focus ((first | ((repeat (first | with_reducible exact TakeA.here | with_reducible apply TakeA.next)); done) | ((repeat (first | exact TakeA.here | apply TakeA.next)); done)))) | fail)); done) (park_ok _ _ _) ?_)
    | (refine G.call 41 ?_; refine Tr.callC (by (repeat (first | exact TakeL.nil | (apply TakeL.cons; focus ((first | ((repeat (first | with_reducible exact TakeA.here | with_reducible apply TakeA.next)); done) | ((repeat (first | exact TakeA.here | apply TakeA.next)); done)))) | fail)); done) (park0n_ok) ?_)
    | (refine G.call 41 ?_; apply Tr.callC ?_ (park0e_ok) ?_)
    | (refine G.call 28 ?_; refine Tr.callC (by (repeat (first | exact TakeL.nil | (apply TakeL.cons; focus ((first | ((repeat (first | with_reducible exact TakeA.here | with_reducible apply TakeA.next)); done) | ((repeat (first | exact TakeA.here | apply TakeA.next)); done)))) | fail)); done) (pick_ok _ _ ?_) ?_)
    | (refine G.call 28 ?_; refine Tr.callC (by (repeat (first | exact TakeL.nil | (apply TakeL.cons; focus ((first | ((repeat (first | with_reducible exact TakeA.here | with_reducible apply TakeA.next)); done) | ((repeat (first | exact TakeA.here | apply TakeA.next)); done)))) | fail)); done) (pick0n_ok) ?_)
    | (refine G.call 28 ?_; apply Tr.callC ?_ (pick0e_ok) ?_)
    | (refine G.call 42 ?_; refine Tr.callC (by (repeat (first | exact TakeL.nil | (apply TakeL.cons; focus ((first | ((repeat (first | with_reducible exact TakeA.here | with_reducible apply TakeA.next)); done) | ((repeat (first | exact TakeA.here | apply TakeA.next)); done)))) | fail)); done) (first_ok _ _ _ _ ?_) ?_)
    | (refine G.call 42 ?_; refine Tr.callC (by (repeat (first | exact TakeL.nil | (apply TakeL.cons; focus ((first | ((repeat (first | with_reducible exact TakeA.here | with_reducible apply TakeA.next)); done) | ((repeat (first | exact TakeA.here | apply TakeA.next)); done)))) | fail)); done) (first0n_ok) ?_)
    | (refine G.call 42 ?_; apply Tr.callC ?_ (first0e_ok) ?_)
    | (refine G.call 24 ?_; apply Tr.callC ?_ (works21_ok) ?_)
    | with_reducible exact TakeL.nil
    | with_reducible apply TakeL.cons
    | rintro _ _ ⟨rfl, rfl⟩
    | rintro _ _ ⟨_, rfl, rfl⟩
    | rintro _ _ ⟨_, _, rfl, rfl⟩
    | (refine G.app ?_; first | refine A.app0 (by rfl) (by decide) (by first | omega | assumption | (simp only [WKl]; omega)) fun _ => ?_ | refine A.app (by rfl) (by decide) (by first | omega | assumption | (simp only [WKl]; omega)) fun _ => ?_)
    | (refine G.bs ?_; first | refine Tr.buildNil rfl fun _ => ?_ | refine Tr.build1 _ rfl rfl (by decide) fun _ => ?_)
    | (refine G.cut ?_; refine A.cutTo (by rfl) (by omega) (by omega) fun _ => ?_)
    | (refine G.look ?_; first | refine A.look ?_ | refine Tr.lookupNil ?_)
    | (refine G.mapu ?_; refine A.mapu ?_)
    | refine Tr.makeMap fun _ => ?_
    | (refine G.rem ?_; refine Tr.rem (by omega) ?_)
    | (refine G.prop ?_; first | omega | assumption | exact Nat.le_of_ble_eq_true rfl)
    | ((apply G.take; first | ((repeat (first | with_reducible exact TakeA.here | with_reducible apply TakeA.next)); done) | ((repeat (first | exact TakeA.here | apply TakeA.next)); done)))) <;> (try simp only [WKb, ↓reduceIte, Nat.reduceEqDiff, pl8, show ix [Pt.mk none, Pt.mk (some b)] ((1 : Nat) : Int) = Pt.mk (some b) from rfl]))))
    all_goals (apply Tr.againE (2); (focus (simp only [WKb, ↓reduceIte, Nat.reduceEqDiff])); (focus ((try simp only [WKb, ↓reduceIte, Nat.reduceEqDiff, Nat.reduceAdd, Nat.reduceSub, hw]); (all_goals ((repeat (refine cons_eq (by first | rfl | (simp [*]; done)) ?_)); rfl)); done)); (focus (first | omega | assumption | (simp only []; omega) | (refine ⟨by omega, by assumption⟩) | (simp only []; refine ⟨by omega, by assumption⟩) | ((try simp only []); (repeat' (first | omega | assumption | refine And.intro ?_ ?_)); done))); (focus (first | omega | (simp only []; omega))); (focus (((try clear hK) <;> (try simp only [WKe, *]) <;> repeat (first
    | with_reducible exact EntR.done
    | (apply EntR.take; focus (first | ((repeat (first | with_reducible exact TakeA.here | with_reducible apply TakeA.next)); done) | ((repeat (first | exact TakeA.here | apply TakeA.next)); done)))
    | with_reducible refine EntR.sep ?_
    | with_reducible apply EntR.ex
    | with_reducible refine EntR.fact (by first | rfl | assumption | omega | simp) ?_
    | refine EntR.drop (F := F) ?_
    | refine EntR.drop ?_)))))
  · ((try simp only [WKb, ↓reduceIte, Nat.reduceEqDiff]) <;> (repeat' ((first
    | (refine G.load ?_; first | refine A.ldW (by rfl) ?_ | refine A.ld1 (by rfl) ?_ | refine A.ldN (by rfl) (by rfl) ?_ | refine A.lS0 (by assumption) (by rfl) ?_ | refine A.lS1 (by assumption) (by rfl) ?_ | refine A.lSW (by assumption) (by rfl) ?_ | refine A.lSN (by assumption) (by rfl) (by rfl) ?_)
    | refine Tr.drewK ?_
    | refine Tr.eqR rfl ?_
    | refine Tr.box rfl fun _ => ?_
    | refine Tr.alloc rfl fun _ => ?_
    | refine Tr.build rfl ?_
    | (refine G.store ?_; first | refine A.stW (by rfl) (by rfl) (by rfl) (by rfl) ?_ | refine A.st (by rfl) (by rfl) (by rfl) (by first | exact Nat.le_of_ble_eq_true rfl | (simp only [WKl, setL_length, En.len]; omega)) ?_ | refine A.stE (by rfl) (by first | omega | assumption | (simp only [WKl]; omega)) (by first | omega | assumption | (simp only [WKl]; omega)) ?_)
    | (refine G.cond ?_; first | refine Tr.condT (by first | rfl | assumption | (simp only [WKs]; omega)) ?_ | refine Tr.condF (by first | rfl | assumption | (simp only [WKs]; omega)) ?_ | (refine Tr.condS (fun hb => ?_) (fun hb => ?_) <;> ((try simp only [hb]) <;> (try (have hp := hb; simp only [WKs] at hp; (try have hq := Int.not_le.2 hp); (try have hq := Int.not_lt.2 hp))))))
    | (refine G.guard ?_; first | (refine Tr.guardTT (by first | rfl | assumption | (simp only [WKs]; omega)) (fun hb => ?_) <;> (try simp only [hb])) | (refine Tr.guardFF (by first | rfl | assumption | (simp only [WKs]; omega)) (fun hb => ?_) <;> (try simp only [hb])) | (refine Tr.guardS (fun hb => ?_) (fun hb => ?_) <;> ((try simp only [hb]) <;> (try (have hp := hb; simp only [WKs] at hp; (try have hq := Int.not_le.2 hp); (try have hq := Int.not_lt.2 hp))))))
    | (refine G.guardC ?_; refine Tr.guardCS (fun hb => ?_) (fun hb => ?_) <;> ((try simp only [hb]) <;> (try (have hp := hb; simp only [WKs] at hp; (try have hq := Int.not_le.2 hp); (try have hq := Int.not_lt.2 hp)))))
    | (refine G.idx ?_; first | refine Tr.indexArr (by omega) (by omega) ?_ | refine A.idx (by rfl) (by first | omega | assumption | (simp only [WKl]; omega)) (by first | omega | assumption | (simp only [WKl]; omega)) fun hix => ?_)
    | (refine G.len ?_; first | refine A.len ?_ | refine A.lenM ?_ | refine Tr.lenMapNil ?_)
    | (refine G.call 25 ?_; refine Tr.callC (by (repeat (first | exact TakeL.nil | (apply TakeL.cons; focus ((first | ((repeat (first | with_reducible exact TakeA.here | with_reducible apply TakeA.next)); done) | ((repeat (first | exact TakeA.here | apply TakeA.next)); done)))) | fail)); done) (free_ok _ _ ?_) ?_)
    | (refine G.call 25 ?_; refine Tr.callC (by (repeat (first | exact TakeL.nil | (apply TakeL.cons; focus ((first | ((repeat (first | with_reducible exact TakeA.here | with_reducible apply TakeA.next)); done) | ((repeat (first | exact TakeA.here | apply TakeA.next)); done)))) | fail)); done) (free0n_ok) ?_)
    | (refine G.call 25 ?_; apply Tr.callC ?_ (free0e_ok) ?_)
    | (refine G.call 36 ?_; refine Tr.callC (by (repeat (first | exact TakeL.nil | (apply TakeL.cons; focus ((first | ((repeat (first | with_reducible exact TakeA.here | with_reducible apply TakeA.next)); done) | ((repeat (first | exact TakeA.here | apply TakeA.next)); done)))) | fail)); done) (waits_ok _ _ _) ?_)
    | (refine G.call 36 ?_; refine Tr.callC (by (repeat (first | exact TakeL.nil | (apply TakeL.cons; focus ((first | ((repeat (first | with_reducible exact TakeA.here | with_reducible apply TakeA.next)); done) | ((repeat (first | exact TakeA.here | apply TakeA.next)); done)))) | fail)); done) (waits0n_ok) ?_)
    | (refine G.call 36 ?_; apply Tr.callC ?_ (waits0e_ok) ?_)
    | (refine G.call 37 ?_; refine Tr.callC (by (repeat (first | exact TakeL.nil | (apply TakeL.cons; focus ((first | ((repeat (first | with_reducible exact TakeA.here | with_reducible apply TakeA.next)); done) | ((repeat (first | exact TakeA.here | apply TakeA.next)); done)))) | fail)); done) (release_ok _ _ _ ?_) ?_)
    | (refine G.call 37 ?_; refine Tr.callC (by (repeat (first | exact TakeL.nil | (apply TakeL.cons; focus ((first | ((repeat (first | with_reducible exact TakeA.here | with_reducible apply TakeA.next)); done) | ((repeat (first | exact TakeA.here | apply TakeA.next)); done)))) | fail)); done) (release0n_ok) ?_)
    | (refine G.call 37 ?_; apply Tr.callC ?_ (release0e_ok) ?_)
    | (refine G.call 23 ?_; refine Tr.callC (by (repeat (first | exact TakeL.nil | (apply TakeL.cons; focus ((first | ((repeat (first | with_reducible exact TakeA.here | with_reducible apply TakeA.next)); done) | ((repeat (first | exact TakeA.here | apply TakeA.next)); done)))) | fail)); done) (len_ok _ _) ?_)
    | (refine G.call 23 ?_; refine Tr.callC (by (repeat (first | exact TakeL.nil | (apply TakeL.cons; focus ((first | ((repeat (first | with_reducible exact TakeA.here | with_reducible apply TakeA.next)); done) | ((repeat (first | exact TakeA.here | apply TakeA.next)); done)))) | fail)); done) (len0n_ok) ?_)
    | (refine G.call 23 ?_; apply Tr.callC ?_ (len0e_ok) ?_)
    | (refine G.call 29 ?_; refine Tr.callC (by (repeat (first | exact TakeL.nil | (apply TakeL.cons; focus ((first | ((repeat (first | with_reducible exact TakeA.here | with_reducible apply TakeA.next)); done) | ((repeat (first | exact TakeA.here | apply TakeA.next)); done)))) | fail)); done) (state_ok _ _ _) ?_)
    | (refine G.call 29 ?_; refine Tr.callC (by (repeat (first | exact TakeL.nil | (apply TakeL.cons; focus ((first | ((repeat (first | with_reducible exact TakeA.here | with_reducible apply TakeA.next)); done) | ((repeat (first | exact TakeA.here | apply TakeA.next)); done)))) | fail)); done) (state0n_ok) ?_)
    | (refine G.call 29 ?_; apply Tr.callC ?_ (state0e_ok) ?_)
    | (refine G.call 30 ?_; refine Tr.callC (by (repeat (first | exact TakeL.nil | (apply TakeL.cons; focus ((first | ((repeat (first | with_reducible exact TakeA.here | with_reducible apply TakeA.next)); done) | ((repeat (first | exact TakeA.here | apply TakeA.next)); done)))) | fail)); done) (prio_ok _ _ _) ?_)
    | (refine G.call 30 ?_; refine Tr.callC (by (repeat (first | exact TakeL.nil | (apply TakeL.cons; focus ((first | ((repeat (first | with_reducible exact TakeA.here | with_reducible apply TakeA.next)); done) | ((repeat (first | exact TakeA.here | apply TakeA.next)); done)))) | fail)); done) (prio0n_ok) ?_)
    | (refine G.call 30 ?_; apply Tr.callC ?_ (prio0e_ok) ?_)
    | (refine G.call 38 ?_; refine Tr.callC (by (repeat (first | exact TakeL.nil | (apply TakeL.cons; focus ((first | ((repeat (first | with_reducible exact TakeA.here | with_reducible apply TakeA.next)); done) | ((repeat (first | exact TakeA.here | apply TakeA.next)); done)))) | fail)); done) (due_ok _ _ _ ?_) ?_)
    | (refine G.call 38 ?_; refine Tr.callC (by (repeat (first | exact TakeL.nil | (apply TakeL.cons; focus ((first | ((repeat (first | with_reducible exact TakeA.here | with_reducible apply TakeA.next)); done) | ((repeat (first | exact TakeA.here | apply TakeA.next)); done)))) | fail)); done) (due0n_ok) ?_)
    | (refine G.call 38 ?_; apply Tr.callC ?_ (due0e_ok) ?_)
    | (refine G.call 39 ?_; refine Tr.callC (by (repeat (first | exact TakeL.nil | (apply TakeL.cons; focus ((first | ((repeat (first | with_reducible exact TakeA.here | with_reducible apply TakeA.next)); done) | ((repeat (first | exact TakeA.here | apply TakeA.next)); done)))) | fail)); done) (start_ok _ _ _ _) ?_)
    | (refine G.call 39 ?_; refine Tr.callC (by (repeat (first | exact TakeL.nil | (apply TakeL.cons; focus ((first | ((repeat (first | with_reducible exact TakeA.here | with_reducible apply TakeA.next)); done) | ((repeat (first | exact TakeA.here | apply TakeA.next)); done)))) | fail)); done) (start0n_ok) ?_)
    | (refine G.call 39 ?_; apply Tr.callC ?_ (start0e_ok) ?_)
    | (refine G.call 26 ?_; refine Tr.callC (by (repeat (first | exact TakeL.nil | (apply TakeL.cons; focus ((first | ((repeat (first | with_reducible exact TakeA.here | with_reducible apply TakeA.next)); done) | ((repeat (first | exact TakeA.here | apply TakeA.next)); done)))) | fail)); done) (set_ok _ _ _ _) ?_)
    | (refine G.call 26 ?_; refine Tr.callC (by (repeat (first | exact TakeL.nil | (apply TakeL.cons; focus ((first | ((repeat (first | with_reducible exact TakeA.here | with_reducible apply TakeA.next)); done) | ((repeat (first | exact TakeA.here | apply TakeA.next)); done)))) | fail)); done) (set0n_ok) ?_)
    | (refine G.call 26 ?_; apply Tr.callC ?_ (set0e_ok) ?_)
    | (refine G.call 40 ?_; refine Tr.callC (by (repeat (first | exact TakeL.nil | (apply TakeL.cons; focus ((first | ((repeat (first | with_reducible exact TakeA.here | with_reducible apply TakeA.next)); done) | ((repeat (first | exact TakeA.here | apply TakeA.next)); done)))) | fail)); done) (wait_ok _ _ _ _ _ _) ?_)
    | (refine G.call 40 ?_; refine Tr.callC (by (repeat (first | exact TakeL.nil | (apply TakeL.cons; focus ((first | ((repeat (first | with_reducible exact TakeA.here | with_reducible apply TakeA.next)); done) | ((repeat (first | exact TakeA.here | apply TakeA.next)); done)))) | fail)); done) (wait0n_ok) ?_)
    | (refine G.call 40 ?_; apply Tr.callC ?_ (wait0e_ok) ?_)
    | (refine G.call 27 ?_; refine Tr.callC (by (repeat (first | exact TakeL.nil | (apply TakeL.cons; focus ((first | ((repeat (first | with_reducible exact TakeA.here | with_reducible apply TakeA.next)); done) | ((repeat (first | exact TakeA.here | apply TakeA.next)); done)))) | fail)); done) (rank_ok _ _ _ _) ?_)
    | (refine G.call 27 ?_; refine Tr.callC (by (repeat (first | exact TakeL.nil | (apply TakeL.cons; focus ((first | ((repeat (first | with_reducible exact TakeA.here | with_reducible apply TakeA.next)); done) | ((repeat (first | exact TakeA.here | apply TakeA.next)); done)))) | fail)); done) (rank0n_ok) ?_)
    | (refine G.call 27 ?_; apply Tr.callC ?_ (rank0e_ok) ?_)
    | (refine G.call 41 ?_; refine Tr.callC (by (repeat (first | exact TakeL.nil | (apply TakeL.cons; focus ((first | ((repeat (first | with_reducible exact TakeA.here | with_reducible apply TakeA.next)); done) | ((repeat (first | exact TakeA.here | apply TakeA.next)); done)))) | fail)); done) (park_ok _ _ _) ?_)
    | (refine G.call 41 ?_; refine Tr.callC (by (repeat (first | exact TakeL.nil | (apply TakeL.cons; focus ((first | ((repeat (first | with_reducible exact TakeA.here | with_reducible apply TakeA.next)); done) | ((repeat (first | exact TakeA.here | apply TakeA.next)); done)))) | fail)); done) (park0n_ok) ?_)
    | (refine G.call 41 ?_; apply Tr.callC ?_ (park0e_ok) ?_)
    | (refine G.call 28 ?_; refine Tr.callC (by (repeat (first | exact TakeL.nil | (apply TakeL.cons; focus ((first | ((repeat (first | with_reducible exact TakeA.here | with_reducible apply TakeA.next)); done) | ((repeat (first | exact TakeA.here | apply TakeA.next)); done)))) | fail)); done) (pick_ok _ _ ?_) ?_)
    | (refine G.call 28 ?_; refine Tr.callC (by (repeat (first | exact TakeL.nil | (apply TakeL.cons; focus ((first | ((repeat (first | with_reducible exact TakeA.here | with_reducible apply TakeA.next)); done) | ((repeat (first | exact TakeA.here | apply TakeA.next)); done)))) | fail)); done) (pick0n_ok) ?_)
    | (refine G.call 28 ?_; apply Tr.callC ?_ (pick0e_ok) ?_)
    | (refine G.call 42 ?_; refine Tr.callC (by (repeat (first | exact TakeL.nil | (apply TakeL.cons; focus ((first | ((repeat (first | with_reducible exact TakeA.here | with_reducible apply TakeA.next)); done) | ((repeat (first | exact TakeA.here | apply TakeA.next)); done)))) | fail)); done) (first_ok _ _ _ _ ?_) ?_)
    | (refine G.call 42 ?_; refine Tr.callC (by (repeat (first | exact TakeL.nil | (apply TakeL.cons; focus ((first | ((repeat (first | with_reducible exact TakeA.here | with_reducible apply TakeA.next)); done) | ((repeat (first | exact TakeA.here | apply TakeA.next)); done)))) | fail)); done) (first0n_ok) ?_)
    | (refine G.call 42 ?_; apply Tr.callC ?_ (first0e_ok) ?_)
    | (refine G.call 24 ?_; apply Tr.callC ?_ (works21_ok) ?_)
    | with_reducible exact TakeL.nil
    | with_reducible apply TakeL.cons
    | rintro _ _ ⟨rfl, rfl⟩
    | rintro _ _ ⟨_, rfl, rfl⟩
    | rintro _ _ ⟨_, _, rfl, rfl⟩
    | (refine G.app ?_; first | refine A.app0 (by rfl) (by decide) (by first | omega | assumption | (simp only [WKl]; omega)) fun _ => ?_ | refine A.app (by rfl) (by decide) (by first | omega | assumption | (simp only [WKl]; omega)) fun _ => ?_)
    | (refine G.bs ?_; first | refine Tr.buildNil rfl fun _ => ?_ | refine Tr.build1 _ rfl rfl (by decide) fun _ => ?_)
    | (refine G.cut ?_; refine A.cutTo (by rfl) (by omega) (by omega) fun _ => ?_)
    | (refine G.look ?_; first | refine A.look ?_ | refine Tr.lookupNil ?_)
    | (refine G.mapu ?_; refine A.mapu ?_)
    | refine Tr.makeMap fun _ => ?_
    | (refine G.rem ?_; refine Tr.rem (by omega) ?_)
    | (refine G.prop ?_; first | omega | assumption | exact Nat.le_of_ble_eq_true rfl)
    | ((apply G.take; first | ((repeat (first | with_reducible exact TakeA.here | with_reducible apply TakeA.next)); done) | ((repeat (first | exact TakeA.here | apply TakeA.next)); done)))) <;> (try simp only [WKb, ↓reduceIte, Nat.reduceEqDiff]))))
    all_goals
      refine Tr.fin hK ⟨rfl, rfl⟩ ?_
      ((try clear hK) <;> (try simp only [WKe, *]) <;> repeat (first
    | with_reducible exact EntR.done
    | (apply EntR.take; focus (first | ((repeat (first | with_reducible exact TakeA.here | with_reducible apply TakeA.next)); done) | ((repeat (first | exact TakeA.here | apply TakeA.next)); done)))
    | with_reducible refine EntR.sep ?_
    | with_reducible apply EntR.ex
    | with_reducible refine EntR.fact (by first | rfl | assumption | omega | simp) ?_
    | refine EntR.drop (F := F) ?_
    | refine EntR.drop ?_))
end Go.Proofs.Ytlmcoiloepoggaa
