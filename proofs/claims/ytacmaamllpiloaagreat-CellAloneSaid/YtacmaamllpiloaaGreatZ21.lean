import Derived.Test.YtacmaamllpiloaaGreatZ20
import Derived.Test.YtacmaamllpiloaaGreatZ18
namespace Go.Proofs.YtacmaamllpiloaaGreat
open Go Go.Wk
set_option maxHeartbeats 3200000
set_option maxRecDepth 100000
def memX (p : Nat) (ms : List RegM) : Asrt := pk (fun g : SV × List RegG => memL p g.1 g.2) (fun g => g.2.map RegG.mo = ms ∧ ∀ x ∈ g.2, okR x.mo)
def rmemX (r : Nat) (ms : List RegM) : Asrt := pk (fun g : SV × SV × List Msg => rmL r g.1 g.2.1 ms g.2.2) (fun g => g.2.2.map SL.d = ms.map RegM.d ∧ ms.length ≤ 1000000 ∧ ∀ m ∈ ms, okR m)
theorem memX_cl {p : Nat} {ms : List RegM} {s : SV} {gs : List RegG} {l : List Asrt} (h1 : gs.map RegG.mo = ms) (h2 : ∀ x ∈ gs, okR x.mo) : Imp (memL p s gs ++ l) (memX p ms :: l) :=
 Imp.pk (f := fun g : SV × List RegG => memL p g.1 g.2) (p := fun g => g.2.map RegG.mo = ms ∧ ∀ x ∈ g.2, okR x.mo) (s, gs) ⟨h1, h2⟩
theorem rmemX_cl {r : Nat} {ms : List RegM} {s1 s2 : SV} {xs : List Msg} {l : List Asrt} (h1 : xs.map SL.d = ms.map RegM.d) (h2 : ms.length ≤ 1000000) (h3 : ∀ m ∈ ms, okR m) : Imp (rmL r s1 s2 ms xs ++ l) (rmemX r ms :: l) :=
 Imp.pk (f := fun g : SV × SV × List Msg => rmL r g.1 g.2.1 ms g.2.2) (p := fun g => g.2.2.map SL.d = ms.map RegM.d ∧ ms.length ≤ 1000000 ∧ ∀ m ∈ ms, okR m) (s1, s2, xs) ⟨h1, h2, h3⟩
abbrev okZ (n : Int) : Prop := -9223372036854775808 ≤ n ∧ n ≤ 9223372036854775807
theorem mv {m l : List Asrt} {A : Asrt} : Imp (m ++ A :: l) (A :: (m ++ l)) := Imp.of_perm List.perm_middle
section
variable {p r : Nat} {ms : List RegM} {a n : Int} {wr : Bool} {s3 s0 : SV} {b : List UInt8} {k : Int} {cs : List RegC}
theorem xmay_ok (ha : okZ a) : Trip Tryz.prog 230 [.pointer (some ⟨p, 0, none⟩), .int .i64 a, .int .i64 n, .bool wr].toArray [memX p ms]
  fun v l' => v = .bool (fI ms a n wr).isSome ∧ l' = [memX p ms] := by
 refine Trip.pk fun g hg F K hK => ?_
 obtain ⟨rfl, hok⟩ := hg
 refine mmay_ok hok ha.2 ha.1 ([] ++ F) K ?_
 rintro v l' ⟨rfl, rfl⟩
 refine Tr.imp ?_ (hK _ _ ⟨rfl, rfl⟩)
 exact memX_cl (rfl) (hok)
theorem xload_ok (ha : okZ a) : Trip Tryz.prog 231 [.pointer (some ⟨p, 0, none⟩), .int .i64 a, .int .i64 n].toArray [memX p ms]
  fun v l' => ∃ s' : SV, v = .tuple [s'.v, .bool (ldO ms a n)].toArray ∧ l' = [memX p ms, sl true s'.v (ldB ms a n)] := by
 refine Trip.pk fun g hg F K hK => ?_
 obtain ⟨rfl, hok⟩ := hg
 refine mload_ok hok ha.2 ha.1 ([] ++ F) K ?_
 rintro v l' ⟨s', rfl, rfl⟩
 refine Tr.imp ?_ (hK _ _ ⟨s', rfl, rfl⟩)
 exact memX_cl (rfl) (hok)
theorem xstore_ok (ha : okZ a) : Trip Tryz.prog 152 [.pointer (some ⟨p, 0, none⟩), .int .i64 a, s3.v].toArray [memX p ms, sl true s3.v b]
  fun v l' => v = .bool (stO ms a b.length) ∧ l' = [memX p (stB ms a b)] := by
 refine Trip.pk fun g hg F K hK => ?_
 obtain ⟨rfl, hok⟩ := hg
 refine Tr.imp mv (mstore_ok hok ha.2 ha.1 ([] ++ F) K ?_)
 rintro v l' ⟨gs2, rfl, h2, h3, rfl⟩
 refine Tr.imp ?_ (hK _ _ ⟨rfl, rfl⟩)
 exact memX_cl (h2) (h3)
theorem xword_ok (ha : okZ a) : Trip Tryz.prog 183 [.pointer (some ⟨p, 0, none⟩), .int .i64 a].toArray [memX p ms]
  fun v l' => v = .tuple [.int .i64 (wdB ms a), .bool (ldO ms a 4)].toArray ∧ l' = [memX p ms] := by
 refine Trip.pk fun g hg F K hK => ?_
 obtain ⟨rfl, hok⟩ := hg
 refine mword_ok hok ldB_4 ha.2 ha.1 ([] ++ F) K ?_
 rintro v l' ⟨rfl, rfl⟩
 refine Tr.imp ?_ (hK _ _ ⟨rfl, rfl⟩)
 exact memX_cl (rfl) (hok)
theorem xput_ok (ha : okZ a) : Trip Tryz.prog 184 [.pointer (some ⟨p, 0, none⟩), .int .i64 a, .int .i64 n].toArray [memX p ms]
  fun v l' => v = .bool (stO ms a 4) ∧ l' = [memX p (stB ms a (b4 n))] := by
 refine Trip.pk fun g hg F K hK => ?_
 obtain ⟨rfl, hok⟩ := hg
 refine mput_ok hok ha.2 ha.1 ([] ++ F) K ?_
 rintro v l' ⟨gs2, rfl, h2, h3, rfl⟩
 refine Tr.imp ?_ (hK _ _ ⟨rfl, rfl⟩)
 exact memX_cl (h2) (h3)
theorem xclear_ok : Trip Tryz.prog 224 [.pointer (some ⟨p, 0, none⟩)].toArray [memX p ms]
  fun v l' => v = .tuple #[] ∧ l' = [memX p (ms.map RegM.clr)] := by
 refine Trip.pk fun g hg F K hK => ?_
 obtain ⟨rfl, hok⟩ := hg
 refine mclear_ok ([] ++ F) K ?_
 rintro v l' ⟨rfl, rfl⟩
 refine Tr.imp ?_ (hK _ _ ⟨rfl, rfl⟩)
 exact memX_cl (clr_mo) (clr_okR hok)
theorem okR_news (h : ∀ c ∈ cs, 0 ≤ c.base ∧ c.base ≤ 1048576) : ∀ m ∈ (cs.take 4).map newR, okR m := fun m hm => by
 obtain ⟨c, hc, rfl⟩ := List.mem_map.1 hm
 exact newR_ok (h c (List.mem_of_mem_take hc))
theorem xmnew_ok (h : ∀ c ∈ cs, 0 ≤ c.base ∧ c.base ≤ 1048576) : Trip Tryz.prog 52 [s0.v].toArray [sl true s0.v cs]
  fun v l' => ∃ p : Nat, v = .pointer (some ⟨p, 0, none⟩) ∧ l' = [memX p ((cs.take 4).map newR)] := by
 refine fun F K hK => mmnew_ok F K ?_
 rintro v l' ⟨b, s, gs, h2, rfl, rfl⟩
 refine Tr.imp ?_ (hK _ _ ⟨b, rfl, rfl⟩)
 refine memX_cl h2 fun x hx => okR_news h _ ?_
 rw [← h2]
 exact List.mem_map_of_mem hx
theorem ymnew_ok (h : ∀ c ∈ cs, 0 ≤ c.base ∧ c.base ≤ 1048576) : Trip Tryz.prog 61 [s0.v].toArray [sl true s0.v cs]
  fun v l' => ∃ r : Nat, v = .pointer (some ⟨r, 0, none⟩) ∧ l' = [rmemX r ((cs.take 4).map newR)] := by
 refine fun F K hK => rmnew_ok F K ?_
 rintro v l' ⟨b, s1, s2, xs, h2, rfl, rfl⟩
 refine Tr.imp ?_ (hK _ _ ⟨b, rfl, rfl⟩)
 exact rmemX_cl h2 (by simp; omega) (okR_news h)
end
end Go.Proofs.YtacmaamllpiloaaGreat
namespace Go.Proofs.YtacmaamllpiloaaGreat
open Go Go.Wk
set_option maxHeartbeats 800000
set_option maxRecDepth 10000
theorem poolA_open {g : PoolG} {l : List Asrt} {X : WP} (h : Tr (blk g.b (.cells [.int .i64 g.size, .int .i64 g.depth, g.s.v].toArray 239 (0, 0)) :: sl false g.s.v g.ms :: fzl g.ms :: l) X) : Tr (poolA g :: l) X := h.imp (Imp.trans Imp.sep (Imp.cons Imp.sep))
theorem slateA_open {g : SlateG} {l : List Asrt} {X : WP} (h : Tr (blk g.b (.cells [.int .i64 g.size, g.m.s.v, .bool g.shown].toArray 244 (0, 0)) :: Fz.fz g.m :: l) X) : Tr (slateA g :: l) X := h.imp Imp.sep
def fitsB (n : Nat) (size : Int) : Bool := decide (0 < n) && decide ((n : Int) ≤ size)
def putC (gs : List PoolG) (k : Int) (n : Nat) : Int := if inR gs k then (if fitsB n (ix gs k).size then (if (ix gs k).depth ≤ (ix gs k).ms.length then 1 else 0) else 2) else 3
def putG (gs : List PoolG) (k : Int) (s : SV) (m : Msg) : List PoolG := if putC gs k m.d.length = 0 then gs.set k.toNat { ix gs k with s := s, ms := (ix gs k).ms ++ [m] } else gs
def getC (gs : List PoolG) (k : Int) : Int := if inR gs k then (if ((ix gs k).ms.length : Int) = 0 then 1 else 0) else 3
def getM (gs : List PoolG) (k : Int) : Msg := if getC gs k = 0 then ix (ix gs k).ms 0 else default
def getG (gs : List PoolG) (k : Int) (s : SV) : List PoolG := if getC gs k = 0 then gs.set k.toNat { ix gs k with s := s, ms := (ix gs k).ms.drop 1 } else gs
def showC (gs : List SlateG) (k : Int) (n : Nat) : Int := if inR gs k then (if fitsB n (ix gs k).size then 0 else 2) else 3
def showG (gs : List SlateG) (k : Int) (m : Msg) : List SlateG := if showC gs k m.d.length = 0 then gs.set k.toNat { ix gs k with m := m, shown := true } else gs
def lookC (gs : List SlateG) (k : Int) : Int := if inR gs k then (if (ix gs k).shown then 0 else 1) else 3
def lookD (gs : List SlateG) (k : Int) : List UInt8 := if lookC gs k = 0 then (ix gs k).m.d else []
def wipeC (gs : List SlateG) (k : Int) : Int := if inR gs k then 0 else 3
def wipeG (gs : List SlateG) (k : Int) : List SlateG := if inR gs k then gs.set k.toNat { ix gs k with m := ⟨⟨none, 0, 0⟩, []⟩, shown := false } else gs
attribute [local irreducible] BrK GenK EGenK EUnitK CallK FnK CallV GuardO GuardC CondW opX opK opKc chkR eqR seqK blkK endL WL WD W LoopW BinK Tr drewK resL PickK NotK NilK ExtrK getK Instr.storeAt Instr.loadAt Instr.fieldAt Instr.indexAt Instr.lookup Instr.mapUpdate Instr.box Instr.alloc Instr.build Instr.buildSlice Instr.makeSlice Instr.makeMap Instr.sliceAt Instr.field Instr.index Instr.makeInterface Instr.typeAssert Builtin.len_ Builtin.append_ Builtin.cap_ Builtin.min_ Builtin.max_ Builtin.copy_ Builtin.clear_ convert binOp mp blk rob sl sep ex fact old
theorem fits_ok {s : SV} {xs : List UInt8} {n : Int} : Trip Tryz.prog 237 [s.v, .int .i64 n].toArray [sl true s.v xs] fun v l' => v = .bool (fitsB xs.length n) ∧ l' = [] := by
 intro F K hK
 simp only [List.cons_append, List.nil_append]
 (refine Tr.enter (rs := [.tmp 4]) mixed fn237 rfl (by simp +arith [Tryz.ntmps237]) fun u => ?_; simp only [cd237, Tryz.f237])
 ((try simp only [WKb, ↓reduceIte, Nat.reduceEqDiff, Nat.reduceAdd]) <;> (repeat' ((first
  | (refine G.tr ?_; first | refine S.a ?_ | (refine S.s (fun hb => ?_) (fun hb => ?_) <;> ((try simp only [hb]) <;> (try (have hp := hb; simp only [WKs] at hp; (try have hq := Int.not_le.2 hp); (try have hq := Int.not_lt.2 hp))))))
  | fail) <;> (try simp only [WKb, ↓reduceIte, Nat.reduceEqDiff]))))
 all_goals
  refine Tr.fin hK ⟨by simp [fitsB]; omega, rfl⟩ ?_
  ((try clear hK) <;> (try simp only [WKe, *]) <;> repeat (first | with_reducible exact EntR.done | refine EntR.drop (F := F) ?_ | fail))
theorem oput_ok {b : Nat} {o : ObW} {gs : List PoolG} {k : Int} {s : SV} {xs : List UInt8} (hn : xs.length ≤ 1000000) (hg : (ix gs k).ms.length ≤ 1000000) : Trip Tryz.prog 179 [.pointer (some ⟨b, 0, none⟩), .int .i64 k, s.v].toArray [obB b o, fam poolA gs, sl false o.ps.v (gs.map PoolG.pt), sl true s.v xs]
  fun v l' => ∃ s1 s2, v = .int .i64 (putC gs k xs.length) ∧ l' = [obB b o, sl false o.ps.v ((putG gs k s1 ⟨s2, xs⟩).map PoolG.pt), fam poolA (putG gs k s1 ⟨s2, xs⟩)] := by
 intro F K hK
 simp only [List.cons_append, List.nil_append]
 by_cases h : inR gs k
 ·have ⟨h0, h1⟩ := h
  have hs := fun s m => map_same (f := PoolG.pt) h0 h1 { ix gs k with s := s, ms := m } rfl
  refine Tr.famAt (A := poolA) k (by (repeat (first | exact TakeA.here | apply TakeA.next)); done) h0 h1 ?_
  refine poolA_open ?_
  (refine Tr.enter (rs := [.tmp 6]) mixed fn179 rfl (by simp +arith [Tryz.ntmps179]) fun u => ?_; simp only [cd179, Tryz.f179])
  ((try simp only [WKb, ↓reduceIte, Nat.reduceEqDiff, Nat.reduceAdd]) <;> (repeat' ((first
  | (refine G.tr ?_; first | refine S.a ?_ | (refine G.call 235 ?_; first | refine S.c ?_ (h := pool_in (by omega) (by omega)) | fail) | (refine G.call 237 ?_; refine S.c ?_ (h := fits_ok)) | (refine G.call 68 ?_; refine S.c ?_ (h := clone_ok (by omega))) | refine S.n fun _ => ?_ | (refine S.s (fun hb => ?_) (fun hb => ?_) <;> ((try simp only [hb]) <;> (try (have hp := hb; simp only [WKs] at hp; (try have hq := Int.not_le.2 hp); (try have hq := Int.not_lt.2 hp))))))
  | rintro _ _ ⟨rfl, rfl⟩
  | rintro _ _ ⟨_, rfl, rfl⟩
  | fail) <;> (try simp only [WKb, ↓reduceIte, Nat.reduceEqDiff, Nat.reduceAdd, pl179]))))
  all_goals
   apply Tr.fin hK ⟨_, _, (by first | (simp [*, putC]; done) | fail), rfl⟩
   ((try clear hK) <;> (try simp only [WKe, putG, putC, ↓reduceIte, Int.reduceEq, *]) <;> repeat (first | with_reducible exact EntR.done | refine S.e ?_ | (refine S.f ?_ <;> (try simp only [WKe, putG, putC, hs, SL.d, ↓reduceIte, reduceCtorEq, Int.reduceEq, *])) | refine EntR.drop (F := F) ?_ | fail))
   all_goals exact SV.mk none 0 0
 ·have h' := h
  unfold inR at h'
  (refine Tr.enter (rs := [.tmp 6]) mixed fn179 rfl (by simp +arith [Tryz.ntmps179]) fun u => ?_; simp only [cd179, Tryz.f179])
  ((try simp only [WKb, ↓reduceIte, Nat.reduceEqDiff, Nat.reduceAdd]) <;> (repeat' ((first
  | (refine G.tr ?_; first | (refine G.call 235 ?_; first | refine S.c ?_ (h := pool_out (by omega))) | fail)
  | rintro _ _ ⟨rfl, rfl⟩
  | fail) <;> (try simp only [WKb, ↓reduceIte]))))
  all_goals
   apply Tr.fin hK ⟨⟨none, 0, 0⟩, ⟨none, 0, 0⟩, (by first | (simp [*, putC]; done) | fail), rfl⟩
   ((try clear hK) <;> (try simp only [WKe, putG, putC, ↓reduceIte, Int.reduceEq, *]) <;> repeat (first | with_reducible exact EntR.done | refine S.e ?_ | refine EntR.drop (F := F) ?_ | fail))
theorem get_ok {b : Nat} {o : ObW} {gs : List PoolG} {k : Int} : Trip Tryz.prog 177 [.pointer (some ⟨b, 0, none⟩), .int .i64 k].toArray [obB b o, fam poolA gs, sl false o.ps.v (gs.map PoolG.pt)]
  fun v l' => ∃ s1, v = .tuple #[(getM gs k).s.v, .int .i64 (getC gs k)] ∧ l' = [obB b o, sl false o.ps.v ((getG gs k s1).map PoolG.pt), fam poolA (getG gs k s1), Fz.fz (getM gs k)] := by
 intro F K hK
 simp only [List.cons_append, List.nil_append]
 by_cases h : inR gs k
 ·have ⟨h0, h1⟩ := h
  have hs := fun s m => map_same (f := PoolG.pt) h0 h1 { ix gs k with s := s, ms := m } rfl
  refine Tr.famAt (A := poolA) k (by (repeat (first | exact TakeA.here | apply TakeA.next)); done) h0 h1 ?_
  refine poolA_open ?_
  (refine Tr.enter (rs := [.tmp 4, .tmp 5]) mixed fn177 rfl (by simp +arith [Tryz.ntmps177]) fun u => ?_; simp only [cd177, Tryz.f177])
  ((try simp only [WKb, ↓reduceIte, Nat.reduceEqDiff, Nat.reduceAdd]) <;> (repeat' ((first
  | (refine G.tr ?_; first | refine S.a ?_ | (refine G.call 235 ?_; first | refine S.c ?_ (h := pool_in (by omega) (by omega)) | fail) | (refine G.call 236 ?_; refine S.c ?_ (h := delete_ok (by omega) (by omega) (by omega))) | refine S.i fun hix => ?_ | (refine S.s (fun hb => ?_) (fun hb => ?_) <;> ((try simp only [hb]) <;> (try (have hp := hb; simp only [WKs] at hp; (try have hq := Int.not_le.2 hp); (try have hq := Int.not_lt.2 hp))))))
  | rintro _ _ ⟨rfl, rfl⟩
  | rintro _ _ ⟨_, rfl, rfl⟩
  | fail) <;> (try simp only [WKb, ↓reduceIte, Nat.reduceEqDiff, Nat.reduceAdd]))))
  all_goals
   apply Tr.fin hK ⟨_, (by first | (simp only [↓reduceIte, Int.reduceEq, eq_self, *, getM, getC]; done) | (simp only [↓reduceIte, Int.reduceEq, *, getM, getC]; rfl)), rfl⟩
   ((try clear hK) <;> (try simp only [WKe, getG, getC, getM, ↓reduceIte, Int.reduceEq, *]) <;> repeat (first | with_reducible exact EntR.done | refine S.e ?_ | (refine S.f ?_ <;> (try simp only [WKe, getG, getC, getM, hs, SL.d, ↓reduceIte, reduceCtorEq, Int.reduceEq, *])) | refine EntR.drop (F := F) ?_ | fail))
   all_goals exact SV.mk none 0 0
 ·have h' := h
  unfold inR at h'
  (refine Tr.enter (rs := [.tmp 4, .tmp 5]) mixed fn177 rfl (by simp +arith [Tryz.ntmps177]) fun u => ?_; simp only [cd177, Tryz.f177])
  ((try simp only [WKb, ↓reduceIte, Nat.reduceEqDiff, Nat.reduceAdd]) <;> (repeat' ((first
  | (refine G.tr ?_; first | (refine G.call 235 ?_; first | refine S.c ?_ (h := pool_out (by omega))) | fail)
  | rintro _ _ ⟨rfl, rfl⟩
  | fail) <;> (try simp only [WKb, ↓reduceIte, Nat.reduceEqDiff]))))
  all_goals
   apply Tr.fin hK ⟨⟨none, 0, 0⟩, (by first | (simp only [↓reduceIte, Int.reduceEq, *, getM, getC]; rfl)), rfl⟩
   ((try clear hK) <;> (try simp only [WKe, getG, getC, getM, ↓reduceIte, Int.reduceEq, *]) <;> repeat (first | with_reducible exact EntR.done | refine S.e ?_ | fail))
theorem show_ok {b : Nat} {o : ObW} {gs : List SlateG} {k : Int} {s : SV} {xs : List UInt8} (hn : xs.length ≤ 1000000) : Trip Tryz.prog 182 [.pointer (some ⟨b, 0, none⟩), .int .i64 k, s.v].toArray [obB b o, fam slateA gs, sl false o.ls.v (gs.map SlateG.pt), sl true s.v xs]
  fun v l' => ∃ s2, v = .int .i64 (showC gs k xs.length) ∧ l' = [obB b o, sl false o.ls.v ((showG gs k ⟨s2, xs⟩).map SlateG.pt), fam slateA (showG gs k ⟨s2, xs⟩)] := by
 intro F K hK
 simp only [List.cons_append, List.nil_append]
 by_cases h : inR gs k
 ·have ⟨h0, h1⟩ := h
  have hs := fun m u => map_same (f := SlateG.pt) h0 h1 { ix gs k with m := m, shown := u } rfl
  refine Tr.famAt (A := slateA) k (by (repeat (first | exact TakeA.here | apply TakeA.next)); done) h0 h1 ?_
  refine slateA_open ?_
  (refine Tr.enter (rs := [.tmp 6]) mixed fn182 rfl (by simp +arith [Tryz.ntmps182]) fun u => ?_; simp only [cd182, Tryz.f182])
  ((try simp only [WKb, ↓reduceIte, Nat.reduceEqDiff, Nat.reduceAdd]) <;> (repeat' ((first
  | (refine G.tr ?_; first | refine S.a ?_ | (refine G.call 234 ?_; first | refine S.c ?_ (h := slate_in (by omega) (by omega)) | fail) | (refine G.call 237 ?_; refine S.c ?_ (h := fits_ok)) | (refine G.call 68 ?_; refine S.c ?_ (h := clone_ok (by omega))) | (refine S.s (fun hb => ?_) (fun hb => ?_) <;> ((try simp only [hb]) <;> (try (have hp := hb; simp only [WKs] at hp; (try have hq := Int.not_le.2 hp); (try have hq := Int.not_lt.2 hp))))))
  | rintro _ _ ⟨rfl, rfl⟩
  | rintro _ _ ⟨_, rfl, rfl⟩
  | fail) <;> (try simp only [WKb, ↓reduceIte, Nat.reduceEqDiff, Nat.reduceAdd]))))
  all_goals
   apply Tr.fin hK ⟨_, (by first | (simp [*, showC]; done) | fail), rfl⟩
   ((try clear hK) <;> (try simp only [WKe, showG, showC, ↓reduceIte, Int.reduceEq, *]) <;> repeat (first | with_reducible exact EntR.done | refine S.e ?_ | (refine S.f ?_ <;> (try simp only [WKe, showG, showC, hs, ↓reduceIte, reduceCtorEq, Int.reduceEq, *])) | refine EntR.drop (F := F) ?_ | fail))
   all_goals exact SV.mk none 0 0
 ·have h' := h
  unfold inR at h'
  (refine Tr.enter (rs := [.tmp 6]) mixed fn182 rfl (by simp +arith [Tryz.ntmps182]) fun u => ?_; simp only [cd182, Tryz.f182])
  ((try simp only [WKb, ↓reduceIte, Nat.reduceEqDiff, Nat.reduceAdd]) <;> (repeat' ((first
  | (refine G.tr ?_; first | (refine G.call 234 ?_; first | refine S.c ?_ (h := slate_out (by omega))) | fail)
  | rintro _ _ ⟨rfl, rfl⟩
  | fail) <;> (try simp only [WKb, ↓reduceIte]))))
  all_goals
   apply Tr.fin hK ⟨⟨none, 0, 0⟩, (by first | (simp [*, showC]; done) | fail), rfl⟩
   ((try clear hK) <;> (try simp only [WKe, showG, showC, ↓reduceIte, Int.reduceEq, *]) <;> repeat (first | with_reducible exact EntR.done | refine S.e ?_ | refine EntR.drop (F := F) ?_ | fail))
theorem look_ok {b : Nat} {o : ObW} {gs : List SlateG} {k : Int} (hn : (ix gs k).m.d.length ≤ 1000000) : Trip Tryz.prog 181 [.pointer (some ⟨b, 0, none⟩), .int .i64 k].toArray [obB b o, fam slateA gs, sl false o.ls.v (gs.map SlateG.pt)]
  fun v l' => ∃ s2 : SV, v = .tuple #[s2.v, .int .i64 (lookC gs k)] ∧ l' = [obB b o, fam slateA gs, sl false o.ls.v (gs.map SlateG.pt), sl true s2.v (lookD gs k)] := by
 intro F K hK
 simp only [List.cons_append, List.nil_append]
 by_cases h : inR gs k
 ·have ⟨h0, h1⟩ := h
  refine Tr.famAt (A := slateA) k (by (repeat (first | exact TakeA.here | apply TakeA.next)); done) h0 h1 ?_
  refine slateA_open ?_
  (refine Tr.enter (rs := [.tmp 4, .tmp 5]) mixed fn181 rfl (by simp +arith [Tryz.ntmps181]) fun u => ?_; simp only [cd181, Tryz.f181])
  ((try simp only [WKb, ↓reduceIte, Nat.reduceEqDiff, Nat.reduceAdd]) <;> (repeat' ((first
  | (refine G.tr ?_; first | refine S.a ?_ | (refine G.call 234 ?_; first | refine S.c ?_ (h := slate_in (by omega) (by omega)) | fail) | (refine G.call 68 ?_; refine S.c ?_ (h := clone_ok (by omega))) | (refine S.s (fun hb => ?_) (fun hb => ?_) <;> ((try simp only [hb]) <;> (try (have hp := hb; simp only [WKs] at hp; (try have hq := Int.not_le.2 hp); (try have hq := Int.not_lt.2 hp))))))
  | rintro _ _ ⟨rfl, rfl⟩
  | rintro _ _ ⟨_, rfl, rfl⟩
  | fail) <;> (try simp only [WKb, ↓reduceIte, Nat.reduceEqDiff]))))
  ·refine Tr.nilSl (α := UInt8) ?_
   refine Tr.freezeAt (by (repeat (first | exact TakeA.here | fail)); done) ?_
   apply Tr.fin hK ⟨⟨none, 0, 0⟩, (by first | (simp [*, lookC, SV.v]; done) | fail), rfl⟩
   ((try clear hK) <;> (try simp only [WKe, lookD, lookC, SV.v, ↓reduceIte, Int.reduceEq, *]) <;> repeat (first | with_reducible exact EntR.done | refine S.e ?_ | (refine S.f ?_ <;> (try simp only [SV.v, slateA, *])) | fail))
  ·apply Tr.fin hK ⟨_, (by first | (simp only [↓reduceIte, *, lookC]; rfl)), rfl⟩
   ((try clear hK) <;> (try simp only [WKe, lookD, lookC, ↓reduceIte, *]) <;> repeat (first | with_reducible exact EntR.done | refine S.e ?_ | (refine S.f ?_ <;> (try simp only [slateA, *])) | fail))
 ·have h' := h
  unfold inR at h'
  (refine Tr.enter (rs := [.tmp 4, .tmp 5]) mixed fn181 rfl (by simp +arith [Tryz.ntmps181]) fun u => ?_; simp only [cd181, Tryz.f181])
  ((try simp only [WKb, ↓reduceIte, Nat.reduceEqDiff, Nat.reduceAdd]) <;> (repeat' ((first
  | (refine G.tr ?_; first | (refine G.call 234 ?_; first | refine S.c ?_ (h := slate_out (by omega))) | fail)
  | rintro _ _ ⟨rfl, rfl⟩
  | fail) <;> (try simp only [WKb, ↓reduceIte, Nat.reduceEqDiff]))))
  all_goals
   refine Tr.nilSl (α := UInt8) ?_
   refine Tr.freezeAt (by (repeat (first | exact TakeA.here | fail)); done) ?_
   apply Tr.fin hK ⟨⟨none, 0, 0⟩, (by first | (simp [*, lookC, SV.v]; done) | fail), rfl⟩
   ((try clear hK) <;> (try simp only [WKe, lookD, lookC, SV.v, ↓reduceIte, Int.reduceEq, *]) <;> repeat (first | with_reducible exact EntR.done | refine S.e ?_ | fail))
theorem wipe_ok {b : Nat} {o : ObW} {gs : List SlateG} {k : Int} : Trip Tryz.prog 180 [.pointer (some ⟨b, 0, none⟩), .int .i64 k].toArray [obB b o, fam slateA gs, sl false o.ls.v (gs.map SlateG.pt)]
  fun v l' => v = .int .i64 (wipeC gs k) ∧ l' = [obB b o, sl false o.ls.v ((wipeG gs k).map SlateG.pt), fam slateA (wipeG gs k)] := by
 intro F K hK
 simp only [List.cons_append, List.nil_append]
 by_cases h : inR gs k
 ·have ⟨h0, h1⟩ := h
  have hs := fun m u => map_same (f := SlateG.pt) h0 h1 { ix gs k with m := m, shown := u } rfl
  refine Tr.famAt (A := slateA) k (by (repeat (first | exact TakeA.here | apply TakeA.next)); done) h0 h1 ?_
  refine slateA_open ?_
  (refine Tr.enter (rs := [.tmp 4]) mixed fn180 rfl (by simp +arith [Tryz.ntmps180]) fun u => ?_; simp only [cd180, Tryz.f180])
  ((try simp only [WKb, ↓reduceIte, Nat.reduceEqDiff, Nat.reduceAdd]) <;> (repeat' ((first
  | (refine G.tr ?_; first | refine S.a ?_ | (refine G.call 234 ?_; first | refine S.c ?_ (h := slate_in (by omega) (by omega)) | fail) | fail)
  | rintro _ _ ⟨rfl, rfl⟩
  | fail) <;> (try simp only [WKb, ↓reduceIte, Nat.reduceEqDiff, Nat.reduceAdd]))))
  all_goals
   refine Tr.fin hK ⟨(by first | (simp [*, wipeC]; done) | fail), rfl⟩ ?_
   have hd : (⟨⟨none, 0, 0⟩, []⟩ : Msg) = default := rfl
   ((try clear hK) <;> (try simp only [WKe, wipeG, ↓reduceIte, *]) <;> repeat (first | with_reducible exact EntR.done | refine S.e ?_ | (refine S.f ?_ <;> (try simp only [WKe, wipeG, hs, ↓reduceIte, reduceCtorEq, Int.reduceEq, *])) | refine EntR.drop (F := F) ?_ | fail))
 ·have h' := h
  unfold inR at h'
  (refine Tr.enter (rs := [.tmp 4]) mixed fn180 rfl (by simp +arith [Tryz.ntmps180]) fun u => ?_; simp only [cd180, Tryz.f180])
  ((try simp only [WKb, ↓reduceIte, Nat.reduceEqDiff, Nat.reduceAdd]) <;> (repeat' ((first
  | (refine G.tr ?_; first | (refine G.call 234 ?_; first | refine S.c ?_ (h := slate_out (by omega))) | fail)
  | rintro _ _ ⟨rfl, rfl⟩
  | fail) <;> (try simp only [WKb, ↓reduceIte]))))
  all_goals
   refine Tr.fin hK ⟨(by first | (simp [*, wipeC]; done) | fail), rfl⟩ ?_
   ((try clear hK) <;> (try simp only [WKe, wipeG, ↓reduceIte, *]) <;> repeat (first | with_reducible exact EntR.done | fail))
def sizeC (ps : List PoolG) (ls : List SlateG) (p k : Int) : Int := if 0 ≤ k then (if inR ls k then (ix ls k).size else 0) else (if inR ps p then (ix ps p).size else 0)
theorem size_ok {b : Nat} {o : ObW} {ps : List PoolG} {ls : List SlateG} {p k : Int} : Trip Tryz.prog 175 [.pointer (some ⟨b, 0, none⟩), .int .i64 p, .int .i64 k].toArray [obB b o, fam poolA ps, sl false o.ps.v (ps.map PoolG.pt), fam slateA ls, sl false o.ls.v (ls.map SlateG.pt)]
  fun v l' => v = .int .i64 (sizeC ps ls p k) ∧ l' = [obB b o, fam poolA ps, sl false o.ps.v (ps.map PoolG.pt), fam slateA ls, sl false o.ls.v (ls.map SlateG.pt)] := by
 intro F K hK
 simp only [List.cons_append, List.nil_append]
 by_cases hk : 0 ≤ k
 ·by_cases h : inR ls k
  ·have ⟨h0, h1⟩ := h
   refine Tr.famAt (A := slateA) k (by (repeat (first | exact TakeA.here | apply TakeA.next)); done) h0 h1 ?_
   refine slateA_open ?_
   (refine Tr.enter (rs := [.tmp 6]) mixed fn175 rfl (by simp +arith [Tryz.ntmps175]) fun u => ?_; simp only [cd175, Tryz.f175])
   ((try simp only [WKb, ↓reduceIte, Nat.reduceEqDiff, Nat.reduceAdd]) <;> (repeat' ((first
  | (refine G.tr ?_; first | refine S.a ?_ | (refine G.call 234 ?_; first | refine S.c ?_ (h := slate_in (by omega) (by omega)) | fail) | fail)
  | rintro _ _ ⟨rfl, rfl⟩
  | fail) <;> (try simp only [WKb, ↓reduceIte, Nat.reduceEqDiff]))))
   all_goals
    refine Tr.fin hK ⟨(by first | (simp [*, sizeC]; done) | fail), rfl⟩ ?_
    ((try clear hK) <;> (try simp only [WKe, *]) <;> repeat (first | with_reducible exact EntR.done | refine S.e ?_ | (refine S.f ?_ <;> (try simp only [WKe, ↓reduceIte, reduceCtorEq, Int.reduceEq, *])) | fail))
  ·have h' := h
   unfold inR at h'
   (refine Tr.enter (rs := [.tmp 6]) mixed fn175 rfl (by simp +arith [Tryz.ntmps175]) fun u => ?_; simp only [cd175, Tryz.f175])
   ((try simp only [WKb, ↓reduceIte, Nat.reduceEqDiff, Nat.reduceAdd]) <;> (repeat' ((first
  | (refine G.tr ?_; first | refine S.a ?_ | (refine G.call 234 ?_; first | refine S.c ?_ (h := slate_out (by omega))) | fail)
  | rintro _ _ ⟨rfl, rfl⟩
  | fail) <;> (try simp only [WKb, ↓reduceIte, Nat.reduceEqDiff]))))
   all_goals
    refine Tr.fin hK ⟨(by first | (simp [*, sizeC]; done) | fail), rfl⟩ ?_
    ((try clear hK) <;> (try simp only [WKe, *]) <;> repeat (first | with_reducible exact EntR.done | refine S.e ?_ | fail))
 ·by_cases h : inR ps p
  ·have ⟨h0, h1⟩ := h
   refine Tr.famAt (A := poolA) p (by (repeat (first | exact TakeA.here | apply TakeA.next)); done) h0 h1 ?_
   refine poolA_open ?_
   (refine Tr.enter (rs := [.tmp 6]) mixed fn175 rfl (by simp +arith [Tryz.ntmps175]) fun u => ?_; simp only [cd175, Tryz.f175])
   ((try simp only [WKb, ↓reduceIte, Nat.reduceEqDiff, Nat.reduceAdd]) <;> (repeat' ((first
  | (refine G.tr ?_; first | refine S.a ?_ | (refine G.call 235 ?_; first | refine S.c ?_ (h := pool_in (by omega) (by omega)) | fail) | fail)
  | rintro _ _ ⟨rfl, rfl⟩
  | fail) <;> (try simp only [WKb, ↓reduceIte, Nat.reduceEqDiff]))))
   all_goals
    refine Tr.fin hK ⟨(by first | (simp [*, sizeC]; done) | fail), rfl⟩ ?_
    ((try clear hK) <;> (try simp only [WKe, *]) <;> repeat (first | with_reducible exact EntR.done | refine S.e ?_ | (refine S.f ?_ <;> (try simp only [WKe, ↓reduceIte, reduceCtorEq, Int.reduceEq, *])) | fail))
  ·have h' := h
   unfold inR at h'
   (refine Tr.enter (rs := [.tmp 6]) mixed fn175 rfl (by simp +arith [Tryz.ntmps175]) fun u => ?_; simp only [cd175, Tryz.f175])
   ((try simp only [WKb, ↓reduceIte, Nat.reduceEqDiff, Nat.reduceAdd]) <;> (repeat' ((first
  | (refine G.tr ?_; first | refine S.a ?_ | (refine G.call 235 ?_; first | refine S.c ?_ (h := pool_out (by omega))) | fail)
  | rintro _ _ ⟨rfl, rfl⟩
  | fail) <;> (try simp only [WKb, ↓reduceIte, Nat.reduceEqDiff]))))
   all_goals
    refine Tr.fin hK ⟨(by first | (simp [*, sizeC]; done) | fail), rfl⟩ ?_
    ((try clear hK) <;> (try simp only [WKe, *]) <;> repeat (first | with_reducible exact EntR.done | refine S.e ?_ | fail))
end Go.Proofs.YtacmaamllpiloaaGreat
