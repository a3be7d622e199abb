import Derived.Test.YtlmcoiloepoggaaPD
namespace Go.Proofs.Ytlmcoiloepoggaa
open Go Go.Wk
set_option maxHeartbeats 3200000
set_option maxRecDepth 10000
theorem read2_ok {p : Nat} {s : SV} {gs : List OneG} {k : Int} (hl0 : (ix gs k).m.d.length ≤ 1000000) : Trip Try.prog 51 [.pointer (some ⟨p, 0, none⟩), .int .i64 k].toArray [poB p s, fam oneA gs, sl false s.v (gs.map OneG.pt)]
    fun v l' => ∃ s3 s4, v = .tuple #[SV.v s4, .int .i64 (outC gs k false)] ∧ l' = [poB p s, fam oneA (outG gs k false s3), sl false s.v ((outG gs k false s3).map OneG.pt), Fz.fz (SL.mk s4 (outD gs k false) : Msg)] := by
  refine Trip.mono (read_ok hl0) ?_
  rintro v l' ⟨s3, ⟨s4, d⟩, h, rfl, rfl⟩
  have h' : d = outD gs k false := h
  subst h'
  exact ⟨s3, s4, rfl, rfl⟩
theorem receive2_ok {p : Nat} {s : SV} {gs : List OneG} {k : Int} (hl0 : (ix gs k).m.d.length ≤ 1000000) : Trip Try.prog 47 [.pointer (some ⟨p, 0, none⟩), .int .i64 k].toArray [poB p s, fam oneA gs, sl false s.v (gs.map OneG.pt)]
    fun v l' => ∃ s3 s4, v = .tuple #[SV.v s4, .int .i64 (outC gs k true)] ∧ l' = [poB p s, fam oneA (outG gs k true s3), sl false s.v ((outG gs k true s3).map OneG.pt), Fz.fz (SL.mk s4 (outD gs k true) : Msg)] := by
  refine Trip.mono (receive_ok hl0) ?_
  rintro v l' ⟨s3, ⟨s4, d⟩, h, rfl, rfl⟩
  have h' : d = outD gs k true := h
  subst h'
  exact ⟨s3, s4, rfl, rfl⟩
instance {l : List Asrt} : De l (.int .u8 120) (120 : UInt8) := ⟨rfl⟩
instance {l : List Asrt} : De l (.int .u8 121) (121 : UInt8) := ⟨rfl⟩
instance hass_msg {l : List Asrt} {s : SV} {d : List UInt8} : HasS (Fz.fz (SL.mk s d : Msg) :: l) s.v true UInt8 inferInstance d := hass_sl (x := (SL.mk s d : Msg))
section
variable {b c : Nat} {s s2 : SV} {m m2 m3 : Msg} {n : Nat} {lo : Int} {ms : List Msg}
abbrev g4 (b c : Nat) (lo : Int) (s : SV) (ms : List Msg) : OneG := ⟨b, true, true, 4, 1, lo, c, s, ms, default, false, false⟩
theorem g4_mk : OneG.mk0 b c ⟨true, true, 4, 1⟩ = g4 b c 0 ⟨none, 0, 0⟩ [] := rfl
theorem g4_del1 : delB [g4 b c 0 s []] 0 = true := rfl
theorem g4_del2 : delG [g4 b c 0 s []] 0 s2 m = [g4 b c 0 s2 [m]] := rfl
theorem g4_del3 : delB [g4 b c 0 s [m]] 0 = false := rfl
theorem g4_del4 : delG [g4 b c 0 s [m]] 0 s2 m2 = [g4 b c 1 s2 [m]] := rfl
theorem g4_out1 : outC [g4 b c 1 s [m]] 0 true = 0 := rfl
theorem g4_out2 : outD [g4 b c 1 s [m]] 0 true = m.d := rfl
theorem g4_out3 : outG [g4 b c 1 s [m]] 0 true s2 = [g4 b c 1 s2 []] := rfl
theorem g4_into1 : lostP [g4 b c 1 s []] 0 = 1 := rfl
theorem g4_into2 : intoC [g4 b c 1 s []] 0 false n = 3 := rfl
theorem g4_into3 : intoG [g4 b c 1 s []] 0 false s2 m = [g4 b c 1 s []] := rfl
theorem g4_pt : (g4 b c lo s ms).pt = ⟨some b⟩ := rfl
end




attribute [local irreducible] BrK GenK EGenK EUnitK CallK FnK CallV GuardO GuardC CondW opX opK opKc chkR eqR seqK blkK endL WL WD W LoopW BinK Tr drewK resL PickK NotK NilK ExtrK getK Instr.storeAt Instr.loadAt Instr.fieldAt Instr.indexAt Instr.lookup Instr.mapUpdate Instr.box Instr.alloc Instr.build Instr.buildSlice Instr.makeSlice Instr.makeMap Instr.sliceAt Instr.field Instr.index Instr.makeInterface Instr.typeAssert Builtin.len_ Builtin.append_ Builtin.cap_ Builtin.min_ Builtin.max_ Builtin.copy_ Builtin.clear_ convert binOp mp blk rob sl sep ex fact old
theorem works18_ok : Trip Try.prog 44 [].toArray [] fun v l' => v = .bool true ∧ l' = [] := by
  intro F K hK
  simp only [List.nil_append]
  (refine Tr.enter (rs := [.tmp 0]) mixed fn44 rfl (by simp +arith [Try.ntmps44]) fun u => ?_; simp only [cd44, Try.f44])
  ((try simp only [WKb]) <;> (repeat' ((first
    | (refine G.tr ?_; first | refine S.a ?_ | refine Tr.brK ?_ ?_ | (refine G.call 43 ?_; first | refine S.c ?_ (h := pnew2_ok) | refine S.c ?_ (h := pnew1_ok)) | (refine G.call 45 ?_; first | refine S.c ?_ (h := pdeliver0_ok) | refine S.c ?_ (h := deliver_ok ?_ ?_)) | (refine G.call 47 ?_; first | refine S.c ?_ (h := preceive0_ok) | refine S.c ?_ (h := receive2_ok ?_)) | (refine G.call 57 ?_; first | refine S.c ?_ (h := plost0_ok) | refine S.c ?_ (h := plost_ok)) | (refine G.call 52 ?_; first | refine S.c ?_ (h := pwrite0_ok) | refine S.c ?_ (h := write_ok ?_ ?_)) | refine S.n fun _ => ?_ | refine S.i fun hix => ?_ | (refine S.g fun hb => ?_; (try simp only [hb])) | (refine S.s (fun hb => ?_) (fun hb => ?_) <;> ((try simp only [hb]) <;> (try (have hp := hb; simp only [WKs] at hp; (try have hq := Int.not_le.2 hp); (try have hq := Int.not_lt.2 hp))))))
    | rintro _ _ ⟨rfl, rfl⟩
    | rintro _ _ ⟨_, _, rfl, rfl⟩
    | rintro _ _ ⟨_, _, _, _, rfl, rfl⟩
    | rintro _ _ ⟨_, _, _, _, _, _, rfl, rfl⟩
    | ((fail_if_success refine G.tr ?_); exact G.prop S.p)
    | fail) <;> (try simp only [WKb, WKh, ↓reduceIte, Nat.reduceAdd]))))
  all_goals
    refine Tr.freezeAt (α := PortC) (by (repeat (first | exact TakeA.here | apply TakeA.next)); done) ?_
    ((try simp only [WKb, WKh, ↓reduceIte, Nat.reduceEqDiff, Nat.reduceAdd, Nat.reduceSub, Int.reduceEq, Int.reduceLT, Int.reduceLE, pl44, g4_mk, g4_del1, g4_del2, g4_del3, g4_del4, g4_out1, g4_out2, g4_out3, g4_into1, g4_into2, g4_into3, g4_pt, BinK_seq1]) <;> (repeat' ((first
    | (refine G.tr ?_; first | refine S.a ?_ | refine Tr.brK ?_ ?_ | (refine G.call 43 ?_; first | refine S.c ?_ (h := pnew2_ok) | refine S.c ?_ (h := pnew1_ok)) | (refine G.call 45 ?_; first | refine S.c ?_ (h := pdeliver0_ok) | refine S.c ?_ (h := deliver_ok ?_ ?_)) | (refine G.call 47 ?_; first | refine S.c ?_ (h := preceive0_ok) | refine S.c ?_ (h := receive2_ok ?_)) | (refine G.call 57 ?_; first | refine S.c ?_ (h := plost0_ok) | refine S.c ?_ (h := plost_ok)) | (refine G.call 52 ?_; first | refine S.c ?_ (h := pwrite0_ok) | refine S.c ?_ (h := write_ok ?_ ?_)) | refine S.n fun _ => ?_ | refine S.i fun hix => ?_ | (refine S.g fun hb => ?_; (try simp only [hb])) | (refine S.s (fun hb => ?_) (fun hb => ?_) <;> ((try simp only [hb]) <;> (try (have hp := hb; simp only [WKs] at hp; (try have hq := Int.not_le.2 hp); (try have hq := Int.not_lt.2 hp))))))
    | rintro _ _ ⟨rfl, rfl⟩
    | rintro _ _ ⟨_, _, rfl, rfl⟩
    | rintro _ _ ⟨_, _, _, _, rfl, rfl⟩
    | rintro _ _ ⟨_, _, _, _, _, _, rfl, rfl⟩
    | ((fail_if_success refine G.tr ?_); exact G.prop S.p)
    | fail) <;> (try simp only [WKb, ↓reduceIte, Nat.reduceEqDiff, g4_mk, g4_del1, g4_del2, g4_del3, g4_del4, g4_out1, g4_out2, g4_out3, g4_into1, g4_into2, g4_into3, g4_pt, BinK_seq1]))))
  all_goals
    refine Tr.fin hK ⟨rfl, rfl⟩ ?_
    ((try clear hK) <;> (try simp only [WKe, *]) <;> repeat (first | with_reducible exact EntR.done | refine S.e ?_ | (refine S.f ?_ <;> (try simp only [WKe, ↓reduceIte, reduceCtorEq, Int.reduceEq, *])) | with_reducible apply EntR.ex | refine EntR.drop (F := F) ?_ | refine EntR.drop ?_))

end Go.Proofs.Ytlmcoiloepoggaa
