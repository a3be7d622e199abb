import Derived.Test.YtlmcoiloepoggaaPF
namespace Go.Proofs.Ytlmcoiloepoggaa
open Go Go.Wk
set_option maxHeartbeats 3200000
set_option maxRecDepth 10000
theorem drain0_ok {p : Nat} {s : SV} {gs : List OneG} {k : Int} (hd : drainD gs k = []) (hl0 : (ix gs k).m.d.length ≤ 1000000) : Trip Try.prog 49 [.pointer (some ⟨p, 0, none⟩), .int .i64 k].toArray [poB p s, fam oneA gs, sl false s.v (gs.map OneG.pt)]
    fun v l' => ∃ s2, v = SV.v s2 ∧ l' = [poB p s, fam oneA (drainG gs k), sl false s.v ((drainG gs k).map OneG.pt), sl false (SV.v s2) ([] : List Msg), fzl ([] : List Msg)] := by
  refine Trip.mono (drain_ok hl0) ?_
  rintro v l' ⟨⟨s2, d⟩, h, rfl, rfl⟩
  have h' : d.map SL.d = drainD gs k := h
  rw [hd] at h'
  have : d = [] := by simpa using h'
  subst this
  exact ⟨s2, rfl, rfl⟩
theorem drain1_ok {p : Nat} {s : SV} {gs : List OneG} {k : Int} (hl0 : (ix gs k).m.d.length ≤ 1000000) : Trip Try.prog 49 [.pointer (some ⟨p, 0, none⟩), .int .i64 k].toArray [poB p s, fam oneA gs, sl false s.v (gs.map OneG.pt)]
    fun v l' => ∃ s2 d, d.map SL.d = drainD gs k ∧ v = SV.v s2 ∧ l' = [poB p s, fam oneA (drainG gs k), sl false s.v ((drainG gs k).map OneG.pt), sl false (SV.v s2) (d : List Msg), fzl d] := by
  refine Trip.mono (drain_ok hl0) ?_
  rintro v l' ⟨⟨s2, d⟩, h, rfl, rfl⟩
  exact ⟨s2, d, h, rfl, rfl⟩
theorem same2_ok {s1 s2 : SV} {xs ys : List Msg} (h : xs.map SL.d = ys.map SL.d) : Trip Try.prog 48 [s1.v, s2.v].toArray [sl true s1.v xs, fzl xs, sl true s2.v ys, fzl ys] fun v l' => v = .bool true ∧ l' = [] := by
  refine Trip.mono same18_ok ?_
  rintro v l' ⟨rfl, rfl⟩
  exact ⟨by rw [decide_eq_true h], rfl⟩



section
variable {b c b2 c2 : Nat} {s s2 : SV} {m m2 m3 : Msg} {n : Nat} {t f t2 f2 : Bool}
abbrev sA (b c : Nat) (m : Msg) (t f : Bool) : OneG := ⟨b, false, true, 300, 0, 0, c, ⟨none, 0, 0⟩, [], m, t, f⟩
abbrev sB (b c : Nat) (m : Msg) (t f : Bool) : OneG := ⟨b, false, false, 300, 0, 0, c, ⟨none, 0, 0⟩, [], m, t, f⟩
theorem sAB_mk1 : OneG.mk0 b c ⟨false, true, 300, 0⟩ = sA b c default false false := rfl
theorem sAB_mk2 : OneG.mk0 b c ⟨false, false, 300, 0⟩ = sB b c default false false := rfl
theorem sAB_out1 : outC [sA b c m t f, sB b2 c2 m2 t2 f2] 0 false = (if t = true then 0 else 1) := rfl
theorem sAB_out2 : outD [sA b c m true f, sB b2 c2 m2 t2 f2] 0 false = m.d := rfl
theorem sAB_out3 : outG [sA b c m t f, sB b2 c2 m2 t2 f2] 0 false s = [sA b c m t f, sB b2 c2 m2 t2 f2] := rfl
theorem sAB_del1 : delB [sA b c m t f, sB b2 c2 m2 t2 f2] 0 = true := rfl
theorem sAB_del2 : delG [sA b c m t f, sB b2 c2 m2 t2 f2] 0 s m3 = [sA b c m3 true true, sB b2 c2 m2 t2 f2] := rfl
theorem sAB_into1 : intoC [sA b c m t f, sB b2 c2 m2 t2 f2] 1 false n = (if lenOK n 300 = true then 0 else 2) := rfl
theorem sAB_into2 : intoG [sA b c m t f, sB b2 c2 m2 t2 f2] 1 false s m3 = (if lenOK m3.d.length 300 = true then [sA b c m t f, sB b2 c2 m3 true true] else [sA b c m t f, sB b2 c2 m2 t2 f2]) := rfl
theorem sAB_dr1 : drainD [sA b c m t f, sB b2 c2 m2 t2 true] 1 = [m2.d] := rfl
theorem sAB_dr2 : drainG [sA b c m t f, sB b2 c2 m2 t2 true] 1 = [sA b c m t f, sB b2 c2 m2 t2 false] := rfl
theorem sAB_dr3 : drainG [sA b c m t f, sB b2 c2 m2 t2 false] 1 = [sA b c m t f, sB b2 c2 m2 t2 false] := rfl
theorem sAB_len : lenP [sA b c m t f, sB b2 c2 m2 true f2] 1 = 1 := rfl
theorem sAB_pt1 : (sA b c m t f).pt = ⟨some b⟩ := rfl
theorem sAB_pt2 : (sB b c m t f).pt = ⟨some b⟩ := rfl
end
theorem ix_20 {x y : OneG} : ix [x, y] 0 = x := rfl
theorem ix_21 {x y : OneG} : ix [x, y] 1 = y := rfl
theorem wrapU (n : UInt8) : IntKind.i64.wrap (n.toNat : Int) = n.toNat := wrapId (by omega) (by have := n.toNat_lt; omega)
attribute [local irreducible] BrK GenK EGenK EUnitK CallK FnK CallV GuardO GuardC CondW opX opK opKc chkR eqR seqK blkK endL WL WD W LoopW BinK Tr drewK resL PickK NotK NilK ExtrK getK Instr.storeAt Instr.loadAt Instr.fieldAt Instr.indexAt Instr.lookup Instr.mapUpdate Instr.box Instr.alloc Instr.build Instr.buildSlice Instr.makeSlice Instr.makeMap Instr.sliceAt Instr.field Instr.index Instr.makeInterface Instr.typeAssert Builtin.len_ Builtin.append_ Builtin.cap_ Builtin.min_ Builtin.max_ Builtin.copy_ Builtin.clear_ convert binOp mp blk rob sl sep ex fact old
theorem samples18_ok {sa sb : SV} {a b : List UInt8} {n : UInt8} : Trip Try.prog 10 [sa.v, sb.v, .int .u8 n.toNat].toArray [sl true sa.v a, sl true sb.v b] fun v l' => v = .bool true ∧ l' = [] := by
  intro F K hK
  simp only [List.cons_append, List.nil_append]
  (refine Tr.enter (rs := [.tmp 6]) mixed fn10 rfl (by simp +arith [Try.ntmps10]) fun u => ?_; simp only [cd10, Try.f10])
  by_cases hg : 1 ≤ a.length ∧ a.length ≤ 300 ∧ b.length ≤ 300
  · obtain ⟨h1, h2, h3⟩ := hg
    have hok : lenOK a.length 300 = true := by unfold lenOK; simp; omega
    ((try simp only [WKb, ↓reduceIte, Nat.reduceEqDiff, Nat.reduceAdd]) <;> (repeat' ((first
    | (refine G.tr ?_; first | refine S.a ?_ | refine Tr.brK ?_ ?_ | (refine G.call 44 ?_; refine S.c ?_ (h := works18_ok)) | (refine G.call 43 ?_; first | refine S.c ?_ (h := pnew2_ok) | refine S.c ?_ (h := pnew1_ok)) | (refine G.call 51 ?_; first | refine S.c ?_ (h := pread0_ok) | refine S.c ?_ (h := read2_ok ?_)) | (refine G.call 45 ?_; first | refine S.c ?_ (h := pdeliver0_ok) | refine S.c ?_ (h := deliver_ok ?_ ?_)) | (refine G.call 52 ?_; first | refine S.c ?_ (h := pwrite0_ok) | refine S.c ?_ (h := write_ok ?_ ?_)) | (refine G.call 49 ?_; first | refine S.c ?_ (h := drain0_ok (by rfl) ?_) | refine S.c ?_ (h := drain1_ok ?_) | refine S.c ?_ (h := pdrain1_ok) | refine S.c ?_ (h := pdrain0_ok)) | (refine G.call 48 ?_; first | refine S.c ?_ (h := same2_ok ?_) | refine S.c ?_ (h := same18_ok)) | (refine G.call 50 ?_; first | refine S.c ?_ (h := plen0_ok) | refine S.c ?_ (h := plen_ok)) | refine S.n fun _ => ?_ | refine S.i fun hix => ?_ | (refine S.g fun hb => ?_; (try simp only [hb])) | (refine S.s (fun hb => ?_) (fun hb => ?_) <;> ((try simp only [hb]) <;> (try (have hp := hb; simp only [WKs] at hp; (try have hq := Int.not_le.2 hp); (try have hq := Int.not_lt.2 hp))))))
    | rintro _ _ ⟨rfl, rfl⟩
    | rintro _ _ ⟨_, rfl, rfl⟩
    | rintro _ _ ⟨_, _, rfl, rfl⟩
    | rintro _ _ ⟨_, _, hrd, rfl, rfl⟩
    | rintro _ _ ⟨_, _, _, _, rfl, rfl⟩
    | rintro _ _ ⟨_, _, _, _, _, _, rfl, rfl⟩
    | ((fail_if_success refine G.tr ?_); exact G.prop S.p)
    | fail) <;> (try simp only [WKb, WKh, ↓reduceIte, Nat.reduceEqDiff, Nat.reduceAdd]))))
    refine Tr.freezeAt (α := PortC) (by (repeat (first | exact TakeA.here | apply TakeA.next)); done) ?_
    ((try simp only [WKb, WKh, ↓reduceIte, Nat.reduceEqDiff, Nat.reduceAdd, Nat.reduceSub, Int.reduceEq, Int.reduceLT, Int.reduceLE, pl10, sAB_mk1, sAB_mk2, sAB_out1, sAB_out2, sAB_out3, sAB_del1, sAB_del2, sAB_pt1, sAB_pt2]) <;> (repeat' ((first
    | (refine G.tr ?_; first | refine S.a ?_ | refine Tr.brK ?_ ?_ | (refine G.call 44 ?_; refine S.c ?_ (h := works18_ok)) | (refine G.call 43 ?_; first | refine S.c ?_ (h := pnew2_ok) | refine S.c ?_ (h := pnew1_ok)) | (refine G.call 51 ?_; first | refine S.c ?_ (h := pread0_ok) | refine S.c ?_ (h := read2_ok ?_)) | (refine G.call 45 ?_; first | refine S.c ?_ (h := pdeliver0_ok) | refine S.c ?_ (h := deliver_ok ?_ ?_)) | (refine G.call 52 ?_; first | refine S.c ?_ (h := pwrite0_ok) | refine S.c ?_ (h := write_ok ?_ ?_)) | (refine G.call 49 ?_; first | refine S.c ?_ (h := drain0_ok (by rfl) ?_) | refine S.c ?_ (h := drain1_ok ?_) | refine S.c ?_ (h := pdrain1_ok) | refine S.c ?_ (h := pdrain0_ok)) | (refine G.call 48 ?_; first | refine S.c ?_ (h := same2_ok ?_) | refine S.c ?_ (h := same18_ok)) | (refine G.call 50 ?_; first | refine S.c ?_ (h := plen0_ok) | refine S.c ?_ (h := plen_ok)) | refine S.n fun _ => ?_ | refine S.i fun hix => ?_ | (refine S.g fun hb => ?_; (try simp only [hb])) | (refine S.s (fun hb => ?_) (fun hb => ?_) <;> ((try simp only [hb]) <;> (try (have hp := hb; simp only [WKs] at hp; (try have hq := Int.not_le.2 hp); (try have hq := Int.not_lt.2 hp))))))
    | rintro _ _ ⟨rfl, rfl⟩
    | rintro _ _ ⟨_, rfl, rfl⟩
    | rintro _ _ ⟨_, _, rfl, rfl⟩
    | rintro _ _ ⟨_, _, hrd, rfl, rfl⟩
    | rintro _ _ ⟨_, _, _, _, rfl, rfl⟩
    | rintro _ _ ⟨_, _, _, _, _, _, rfl, rfl⟩
    | ((fail_if_success refine G.tr ?_); exact G.prop S.p)
    | fail) <;> (try simp only [WKb, ↓reduceIte, Nat.reduceEqDiff, sAB_mk1, sAB_mk2, sAB_out1, sAB_out3, sAB_del1, sAB_del2, sAB_pt1, sAB_pt2]))))
    rename_i xq p s1 pb pc pb2 pc2 r3 r4 d3 d4 e3 e4
    refine Tr.loopE (α := Nat) [6, 10] [0, 2, 7, 9] (fun k => [.bool false, .int .i64 k]) (fun _ => []) (fun k => k ≤ n.toNat) (fun k => n.toNat - k) 0 (by (repeat (first | exact TakeL.nil | (apply TakeL.cons; focus ((first | exact TakeA.dupS | exact TakeA.dupF | ((repeat (first | with_reducible exact TakeA.here | exact TakeA.fam (by omega) (by omega) | with_reducible apply TakeA.next)); done) | ((repeat (first | exact TakeA.here | apply TakeA.next)); done) | exact TakeA.famNil | exact TakeA.nilS))) | fail)); done) rfl (by omega) fun k u hk => ?_
    by_cases hlt : k < n.toNat
    · have hw := wrapSucc (k := k) (by have := n.toNat_lt; omega)
      ((try simp only [WKb, WKh, ↓reduceIte, Nat.reduceEqDiff, wrapU]) <;> (repeat' ((first
    | (refine G.tr ?_; first | refine S.a ?_ | refine Tr.brK ?_ ?_ | (refine G.call 44 ?_; refine S.c ?_ (h := works18_ok)) | (refine G.call 43 ?_; first | refine S.c ?_ (h := pnew2_ok) | refine S.c ?_ (h := pnew1_ok)) | (refine G.call 51 ?_; first | refine S.c ?_ (h := pread0_ok) | refine S.c ?_ (h := read2_ok ?_)) | (refine G.call 45 ?_; first | refine S.c ?_ (h := pdeliver0_ok) | refine S.c ?_ (h := deliver_ok ?_ ?_)) | (refine G.call 52 ?_; first | refine S.c ?_ (h := pwrite0_ok) | refine S.c ?_ (h := write_ok ?_ ?_)) | (refine G.call 49 ?_; first | refine S.c ?_ (h := drain0_ok (by rfl) ?_) | refine S.c ?_ (h := drain1_ok ?_) | refine S.c ?_ (h := pdrain1_ok) | refine S.c ?_ (h := pdrain0_ok)) | (refine G.call 48 ?_; first | refine S.c ?_ (h := same2_ok ?_) | refine S.c ?_ (h := same18_ok)) | (refine G.call 50 ?_; first | refine S.c ?_ (h := plen0_ok) | refine S.c ?_ (h := plen_ok)) | refine S.n fun _ => ?_ | refine S.i fun hix => ?_ | (refine S.g fun hb => ?_; (try simp only [hb])) | (refine S.s (fun hb => ?_) (fun hb => ?_) <;> ((try simp only [hb]) <;> (try (have hp := hb; simp only [WKs] at hp; (try have hq := Int.not_le.2 hp); (try have hq := Int.not_lt.2 hp))))))
    | rintro _ _ ⟨rfl, rfl⟩
    | rintro _ _ ⟨_, rfl, rfl⟩
    | rintro _ _ ⟨_, _, rfl, rfl⟩
    | rintro _ _ ⟨_, _, hrd, rfl, rfl⟩
    | rintro _ _ ⟨_, _, _, _, rfl, rfl⟩
    | rintro _ _ ⟨_, _, _, _, _, _, rfl, rfl⟩
    | ((fail_if_success refine G.tr ?_); exact G.prop S.p)
    | fail) <;> (try simp only [WKb, WKh, ↓reduceIte, Nat.reduceEqDiff, hw, ix_20, sAB_out1, sAB_out2, sAB_out3, sAB_pt1, sAB_pt2]))))
      all_goals (apply Tr.againE (k + 1); (focus (simp only [WKb, ↓reduceIte, Nat.reduceEqDiff])); (focus ((try simp only [WKb, ↓reduceIte, Nat.reduceEqDiff]); (all_goals ((repeat (refine cons_eq (by first | rfl | (simp [*]; done)) ?_)); rfl)); done)); (focus (first | omega | assumption | (simp only []; omega) | (refine ⟨by omega, by assumption⟩) | (simp only []; refine ⟨by omega, by assumption⟩) | ((try simp only []); (repeat' (first | omega | assumption | refine And.intro ?_ ?_)); done))); (focus (first | omega | (simp only []; omega))); (focus (((try clear hK) <;> (try simp only [WKe, *]) <;> repeat (first | with_reducible exact EntR.done | refine S.e ?_ | (refine S.f ?_ <;> (try simp only [WKe, ↓reduceIte, reduceCtorEq, Int.reduceEq, *])) | with_reducible apply EntR.ex | refine EntR.drop (F := F) ?_ | refine EntR.drop ?_)))))
    · ((try simp only [WKb, WKh, ↓reduceIte, Nat.reduceEqDiff, wrapU]) <;> (repeat' ((first
    | (refine G.tr ?_; first | refine S.a ?_ | refine Tr.brK ?_ ?_ | (refine G.call 44 ?_; refine S.c ?_ (h := works18_ok)) | (refine G.call 43 ?_; first | refine S.c ?_ (h := pnew2_ok) | refine S.c ?_ (h := pnew1_ok)) | (refine G.call 51 ?_; first | refine S.c ?_ (h := pread0_ok) | refine S.c ?_ (h := read2_ok ?_)) | (refine G.call 45 ?_; first | refine S.c ?_ (h := pdeliver0_ok) | refine S.c ?_ (h := deliver_ok ?_ ?_)) | (refine G.call 52 ?_; first | refine S.c ?_ (h := pwrite0_ok) | refine S.c ?_ (h := write_ok ?_ ?_)) | (refine G.call 49 ?_; first | refine S.c ?_ (h := drain0_ok (by rfl) ?_) | refine S.c ?_ (h := drain1_ok ?_) | refine S.c ?_ (h := pdrain1_ok) | refine S.c ?_ (h := pdrain0_ok)) | (refine G.call 48 ?_; first | refine S.c ?_ (h := same2_ok ?_) | refine S.c ?_ (h := same18_ok)) | (refine G.call 50 ?_; first | refine S.c ?_ (h := plen0_ok) | refine S.c ?_ (h := plen_ok)) | refine S.n fun _ => ?_ | refine S.i fun hix => ?_ | (refine S.g fun hb => ?_; (try simp only [hb])) | (refine S.s (fun hb => ?_) (fun hb => ?_) <;> ((try simp only [hb]) <;> (try (have hp := hb; simp only [WKs] at hp; (try have hq := Int.not_le.2 hp); (try have hq := Int.not_lt.2 hp))))))
    | rintro _ _ ⟨rfl, rfl⟩
    | rintro _ _ ⟨_, rfl, rfl⟩
    | rintro _ _ ⟨_, _, rfl, rfl⟩
    | rintro _ _ ⟨_, _, hrd, rfl, rfl⟩
    | rintro _ _ ⟨_, _, _, _, rfl, rfl⟩
    | rintro _ _ ⟨_, _, _, _, _, _, rfl, rfl⟩
    | ((fail_if_success refine G.tr ?_); exact G.prop S.p)
    | fail) <;> (try simp only [WKb, ↓reduceIte, Nat.reduceEqDiff, ix_21, sAB_into1, sAB_into2, hok, sAB_dr2, sAB_pt1, sAB_pt2]))))
      refine Tr.freezeAt (α := Msg) (by (repeat (first | exact TakeA.here | apply TakeA.next)); done) ?_
      refine Tr.freezeAt (α := Msg) (by (repeat (first | exact TakeA.here | apply TakeA.next)); done) ?_
      ((try simp only [WKb, WKh, ↓reduceIte, Nat.reduceEqDiff, Nat.reduceAdd, Nat.reduceSub, Int.reduceEq, Int.reduceLT, Int.reduceLE, pl10, wrapU, ix_20, ix_21, sAB_out1, sAB_into1, sAB_into2, hok, sAB_dr2, sAB_dr3, sAB_len, sAB_pt1, sAB_pt2]) <;> (repeat' ((first
    | (refine G.tr ?_; first | refine S.a ?_ | refine Tr.brK ?_ ?_ | (refine G.call 44 ?_; refine S.c ?_ (h := works18_ok)) | (refine G.call 43 ?_; first | refine S.c ?_ (h := pnew2_ok) | refine S.c ?_ (h := pnew1_ok)) | (refine G.call 51 ?_; first | refine S.c ?_ (h := pread0_ok) | refine S.c ?_ (h := read2_ok ?_)) | (refine G.call 45 ?_; first | refine S.c ?_ (h := pdeliver0_ok) | refine S.c ?_ (h := deliver_ok ?_ ?_)) | (refine G.call 52 ?_; first | refine S.c ?_ (h := pwrite0_ok) | refine S.c ?_ (h := write_ok ?_ ?_)) | (refine G.call 49 ?_; first | refine S.c ?_ (h := drain0_ok (by rfl) ?_) | refine S.c ?_ (h := drain1_ok ?_) | refine S.c ?_ (h := pdrain1_ok) | refine S.c ?_ (h := pdrain0_ok)) | (refine G.call 48 ?_; first | refine S.c ?_ (h := same2_ok ?_) | refine S.c ?_ (h := same18_ok)) | (refine G.call 50 ?_; first | refine S.c ?_ (h := plen0_ok) | refine S.c ?_ (h := plen_ok)) | refine S.n fun _ => ?_ | refine S.i fun hix => ?_ | (refine S.g fun hb => ?_; (try simp only [hb])) | (refine S.s (fun hb => ?_) (fun hb => ?_) <;> ((try simp only [hb]) <;> (try (have hp := hb; simp only [WKs] at hp; (try have hq := Int.not_le.2 hp); (try have hq := Int.not_lt.2 hp))))))
    | rintro _ _ ⟨rfl, rfl⟩
    | rintro _ _ ⟨_, rfl, rfl⟩
    | rintro _ _ ⟨_, _, rfl, rfl⟩
    | rintro _ _ ⟨_, _, hrd, rfl, rfl⟩
    | rintro _ _ ⟨_, _, _, _, rfl, rfl⟩
    | rintro _ _ ⟨_, _, _, _, _, _, rfl, rfl⟩
    | ((fail_if_success refine G.tr ?_); exact G.prop S.p)
    | fail) <;> (try simp only [WKb, ↓reduceIte, Nat.reduceEqDiff, ix_21, sAB_dr3, sAB_len, sAB_pt1, sAB_pt2]))))
      all_goals first | exact hrd | skip
      all_goals
        refine Tr.fin hK ⟨rfl, rfl⟩ ?_
        ((try clear hK) <;> (try simp only [WKe, *]) <;> repeat (first | with_reducible exact EntR.done | refine S.e ?_ | (refine S.f ?_ <;> (try simp only [WKe, ↓reduceIte, reduceCtorEq, Int.reduceEq, *])) | with_reducible apply EntR.ex | refine EntR.drop (F := F) ?_ | refine EntR.drop ?_))
  · ((try simp only [WKb, ↓reduceIte, Nat.reduceEqDiff, Nat.reduceAdd]) <;> (repeat' ((first
    | (refine G.tr ?_; first | refine S.a ?_ | refine Tr.brK ?_ ?_ | (refine G.call 44 ?_; refine S.c ?_ (h := works18_ok)) | (refine G.call 43 ?_; first | refine S.c ?_ (h := pnew2_ok) | refine S.c ?_ (h := pnew1_ok)) | (refine G.call 51 ?_; first | refine S.c ?_ (h := pread0_ok) | refine S.c ?_ (h := read2_ok ?_)) | (refine G.call 45 ?_; first | refine S.c ?_ (h := pdeliver0_ok) | refine S.c ?_ (h := deliver_ok ?_ ?_)) | (refine G.call 52 ?_; first | refine S.c ?_ (h := pwrite0_ok) | refine S.c ?_ (h := write_ok ?_ ?_)) | (refine G.call 49 ?_; first | refine S.c ?_ (h := drain0_ok (by rfl) ?_) | refine S.c ?_ (h := drain1_ok ?_) | refine S.c ?_ (h := pdrain1_ok) | refine S.c ?_ (h := pdrain0_ok)) | (refine G.call 48 ?_; first | refine S.c ?_ (h := same2_ok ?_) | refine S.c ?_ (h := same18_ok)) | (refine G.call 50 ?_; first | refine S.c ?_ (h := plen0_ok) | refine S.c ?_ (h := plen_ok)) | refine S.n fun _ => ?_ | refine S.i fun hix => ?_ | (refine S.g fun hb => ?_; (try simp only [hb])) | (refine S.s (fun hb => ?_) (fun hb => ?_) <;> ((try simp only [hb]) <;> (try (have hp := hb; simp only [WKs] at hp; (try have hq := Int.not_le.2 hp); (try have hq := Int.not_lt.2 hp))))))
    | rintro _ _ ⟨rfl, rfl⟩
    | rintro _ _ ⟨_, rfl, rfl⟩
    | rintro _ _ ⟨_, _, rfl, rfl⟩
    | rintro _ _ ⟨_, _, hrd, rfl, rfl⟩
    | rintro _ _ ⟨_, _, _, _, rfl, rfl⟩
    | rintro _ _ ⟨_, _, _, _, _, _, rfl, rfl⟩
    | ((fail_if_success refine G.tr ?_); exact G.prop S.p)
    | fail) <;> (try simp only [WKb, ↓reduceIte, Nat.reduceEqDiff]))))
    all_goals
      refine Tr.fin hK ⟨rfl, rfl⟩ ?_
      ((try clear hK) <;> (try simp only [WKe, *]) <;> repeat (first | with_reducible exact EntR.done | refine S.e ?_ | (refine S.f ?_ <;> (try simp only [WKe, ↓reduceIte, reduceCtorEq, Int.reduceEq, *])) | with_reducible apply EntR.ex | refine EntR.drop (F := F) ?_ | refine EntR.drop ?_))
end Go.Proofs.Ytlmcoiloepoggaa
