import Derived.Test.YtacmaamllpiloaaGreatZ06
import Derived.Test.YtacmaamllpiloaaGreatZ03
namespace Go.Proofs.YtacmaamllpiloaaGreat
open Go Go.Wk Tryz
set_option maxHeartbeats 3200000
set_option maxRecDepth 100000
structure Y9 where
 o : One
instance : Inhabited Y9 := ⟨⟨One.zero⟩⟩
instance : En Y9 := ⟨fun r => [.int .i64 r.o.cprio, .int .i64 r.o.period, .int .i64 r.o.cost, .int .i64 r.o.state, .int .i64 r.o.prio, .int .i64 r.o.turn, .int .i64 r.o.next, .int .i64 r.o.call, .int .i64 r.o.what, .int .i64 r.o.wake, .bool r.o.parked], 11, fun _ => rfl, fun _ => rfl, by decide⟩
theorem Y0 : (∀ (p : One) (x : Int), (En.enc (Y9.mk p)).set 0 (.int .i64 x) = En.enc (Y9.mk { p with cprio := x })) ∧
  (∀ (p : One) (x : Int), (En.enc (Y9.mk p)).set 1 (.int .i64 x) = En.enc (Y9.mk { p with period := x })) ∧
  (∀ (p : One) (x : Int), (En.enc (Y9.mk p)).set 2 (.int .i64 x) = En.enc (Y9.mk { p with cost := x })) ∧
  (∀ (p : One) (x : Int), (En.enc (Y9.mk p)).set 3 (.int .i64 x) = En.enc (Y9.mk { p with state := x })) ∧
  (∀ (p : One) (x : Int), (En.enc (Y9.mk p)).set 4 (.int .i64 x) = En.enc (Y9.mk { p with prio := x })) ∧
  (∀ (p : One) (x : Int), (En.enc (Y9.mk p)).set 5 (.int .i64 x) = En.enc (Y9.mk { p with turn := x })) ∧
  (∀ (p : One) (x : Int), (En.enc (Y9.mk p)).set 6 (.int .i64 x) = En.enc (Y9.mk { p with next := x })) ∧
  (∀ (p : One) (x : Int), (En.enc (Y9.mk p)).set 7 (.int .i64 x) = En.enc (Y9.mk { p with call := x })) ∧
  (∀ (p : One) (x : Int), (En.enc (Y9.mk p)).set 8 (.int .i64 x) = En.enc (Y9.mk { p with what := x })) ∧
  (∀ (p : One) (x : Int), (En.enc (Y9.mk p)).set 9 (.int .i64 x) = En.enc (Y9.mk { p with wake := x })) ∧
  (∀ (p : One) (x : Bool), (En.enc (Y9.mk p)).set 10 (.bool x) = En.enc (Y9.mk { p with parked := x })) := ⟨fun _ _ => rfl, fun _ _ => rfl, fun _ _ => rfl, fun _ _ => rfl, fun _ _ => rfl, fun _ _ => rfl, fun _ _ => rfl, fun _ _ => rfl, fun _ _ => rfl, fun _ _ => rfl, fun _ _ => rfl⟩
def One.r (d : One) : Value := .agg (En.enc (Y9.mk d)).toArray
abbrev Zi (a : Nat) (s : SV) (n : Int) : Xc := blk a (.cells #[s.v, .int .i64 n] 107 (0, 0))
abbrev Zj (s : SV) (d : List One) : Xc := sl false s.v (d.map Y9.mk)
def Yg (a : Nat) (t : Tb) : Xc := ex fun s : SV => sep (Zi a s t.turns) (Zj s t.d)
instance : ElT 105 Y9 := ⟨⟩
instance xus : ElT 28 Int := ⟨⟩
section
attribute [local irreducible] BrK Xq Xt Xv XI FnK XZ Xw XC XV opX opK Yq Yk eqR Yj Yo Ys WL WD W X3 XO Tr drewK Ya X4 Yw Yv X1 YB mp blk rob sl sep ex fact old Instr.storeAt Instr.loadAt Instr.fieldAt Instr.indexAt Instr.lookup Instr.mapUpdate Instr.box Instr.alloc Instr.build Instr.buildSlice Instr.makeSlice Instr.makeMap Instr.sliceAt Instr.field Instr.index Instr.makeInterface Instr.typeAssert Builtin.len_ Builtin.append_ Builtin.cap_ Builtin.min_ Builtin.max_ Builtin.copy_ Builtin.clear_ convert binOp
theorem xd5 {a : Nat} {s : SV} {n : Int} {d : List One} {k : Int} : Xb prog 194 #[.pointer (some ⟨a, 0, none⟩), .int .i64 k] [Zi a s n, Zj s d]
  fun v l' => v = .bool (decide (0 ≤ k ∧ k < d.length)) ∧ l' = [Zi a s n, Zj s d] := by
 intro F K hK
 simp only [ap]
 refine S.I fun u => ?_
 have hX := @Y0; repeat' (first | refine S.x ?_ | refine S.y ?_ ?_ | intro hb | fail)
 all_goals
  refine Tr.fin hK ⟨?_, rfl⟩ ?_
  ·clear hK; simp; omega
  ·exact S.E
theorem xfa {p q : One} : Xb prog 198 #[p.r, q.r] [] fun v l' => v = .bool (p.ahead q) ∧ l' = [] := by
 intro F K hK
 simp only [List.nil_append]
 refine S.I fun u => ?_
 have hX := @Y0; repeat' (first | refine S.x ?_ | refine S.y ?_ ?_ | intro hb | fail)
 all_goals
  refine Tr.fin hK ⟨?_, rfl⟩ ?_
  ·clear hK; unfold One.ahead; split <;> simp <;> omega
  ·exact S.E
theorem QH {a : Nat} {s : SV} {n : Int} {d : List One} {k : Int} {p : One} (hn : d.length ≤ 1000000) (h0 : 0 ≤ k) (h1 : k < d.length) : Xb prog 122 #[.pointer (some ⟨a, 0, none⟩), .int .i64 k, p.r] [Zi a s n, Zj s d]
  fun v l' => ∃ s', v = .tuple #[] ∧ l' = [Zi a s' n, Zj s' (d.set k.toNat p)] := by
 intro F K hK
 simp only [ap]
 refine S.I fun u => ?_
 have hX := @Y0; repeat' (first | refine S.x ?_ | intro hb | fail)
 all_goals
  apply Tr.fin hK ⟨_, rfl, rfl⟩
  (have hX := And.intro @Zj.eq_def (And.intro @Zi.eq_def @List.map_set.{0,0}); exact S.E)
theorem xbL {a : Nat} {s : SV} {n : Int} {d : List One} {k : Int} {p : One} {st : Int} (hn : d.length ≤ 1000000) (h0 : 0 ≤ k) (h1 : k < d.length) : Xb prog 123 #[.pointer (some ⟨a, 0, none⟩), .int .i64 k, p.r, .int .i64 st] [Zi a s n, Zj s d]
  fun v l' => ∃ s', v = .tuple #[] ∧ l' = [Zi a s' (Tb.putT ⟨d, n⟩ st), Zj s' (d.set k.toNat (Tb.putP ⟨d, n⟩ p st))] := by
 intro F K hK
 simp only [ap]
 refine S.I fun u => ?_
 have hX := @Y0; repeat' (first | refine S.x ?_ | refine S.y ?_ ?_ | (refine G.call 122 ?_; refine S.c ?_ (h := QH ?_ ?_ ?_)) | rintro _ _ ⟨_, rfl, rfl⟩ | (refine G.prop ?_; assumption) | intro hb | fail)
 all_goals
  apply Tr.fin hK ⟨_, rfl, rfl⟩
  (have hX := I5 @Zj.eq_def @Zi.eq_def @Tb.put.eq_def @Tb.putP.eq_def (And.intro @Tb.putT.eq_def @List.map_set.{0,0}); exact S.E)
instance : Inhabited One := ⟨One.zero⟩
theorem Jt {d : List One} {k : Int} : ix (d.map Y9.mk) k = Y9.mk (ix d k) := by
 unfold ix
 simp only [List.getD_eq_getElem?_getD, List.getElem?_map]
 cases d[k.toNat]? <;> rfl
theorem V8 {t : Tb} {k : Int} (h : 0 ≤ k) : t.at k = ix t.d k := by unfold Tb.at ix; rw [if_pos h]; rfl
theorem lt5 {x : Int} : (x < 5) = ¬ (4 < x) := propext S.o
theorem xfs {a : Nat} {t : Tb} {k win : Int} (hn : t.d.length ≤ 1000000) : Xb prog 120 #[.pointer (some ⟨a, 0, none⟩), .int .i64 k, .int .i64 win] [Yg a t]
  fun v l' => v = .bool (t.startB k) ∧ l' = [Yg a (t.start k win)] := by
 intro F K hK
 simp only [ap, Yg, Tr.ex_iff, Tr.sep_iff]
 intro s
 refine S.I fun u => ?_
 have hX := And.intro @Y0 @Jt; repeat' (first | refine S.x ?_ | refine S.y ?_ ?_ | (refine G.call 194 ?_; refine S.c ?_ (h := xd5)) | (refine G.call 123 ?_; refine S.c ?_ (h := xbL ?_ ?_ ?_)) | rintro _ _ ⟨rfl, rfl⟩ | rintro _ _ ⟨_, rfl, rfl⟩ | (refine G.prop ?_; assumption) | intro hb | ((fail_if_success refine G.tr ?_); exact G.prop S.p) | fail)
 all_goals
  refine Tr.fin hK ⟨?_, rfl⟩ ?_
  ·((try clear hK) <;> first | (simp [*, Tb.startB, Tb.has, V8]; done) | fail)
  ·(have hX := I8 @Yg.eq_def @Zj.eq_def @Zi.eq_def @Tb.start.eq_def @Tb.startB.eq_def @Tb.has.eq_def @V8 @Tb.put.eq_def; exact S.E)
theorem Ju {a : Nat} {t : Tb} {k st : Int} (hn : t.d.length ≤ 1000000) : Xb prog 125 #[.pointer (some ⟨a, 0, none⟩), .int .i64 k, .int .i64 st] [Yg a t]
  fun v l' => v = .bool (t.setB k st) ∧ l' = [Yg a (t.set k st)] := by
 intro F K hK
 simp only [ap, Yg, Tr.ex_iff, Tr.sep_iff]
 intro s
 refine S.I fun u => ?_
 have hX := And.intro @Y0 @Jt; repeat' (first | refine S.x ?_ | refine S.y ?_ ?_ | (refine G.call 194 ?_; refine S.c ?_ (h := xd5)) | (refine G.call 123 ?_; refine S.c ?_ (h := xbL ?_ ?_ ?_)) | rintro _ _ ⟨rfl, rfl⟩ | rintro _ _ ⟨_, rfl, rfl⟩ | (refine G.prop ?_; assumption) | intro hb | ((fail_if_success refine G.tr ?_); exact G.prop S.p) | fail)
 all_goals
  refine Tr.fin hK ⟨?_, rfl⟩ ?_
  ·((try clear hK) <;> first | (simp [*, Tb.setB, Tb.has]; done) | (simp [*, Tb.setB, Tb.has]; omega) | fail)
  ·(have hX := I9 @Yg.eq_def @Zj.eq_def @Zi.eq_def @Tb.set.eq_def @Tb.setB.eq_def @Tb.has.eq_def @V8 @Tb.put.eq_def @lt5; exact S.E)
theorem xb7 {a : Nat} {t : Tb} {k c wh wk : Int} (hn : t.d.length ≤ 1000000) : Xb prog 202 #[.pointer (some ⟨a, 0, none⟩), .int .i64 k, .int .i64 c, .int .i64 wh, .int .i64 wk] [Yg a t]
  fun v l' => v = .bool (t.has k) ∧ l' = [Yg a (t.wait k c wh wk)] := by
 intro F K hK
 simp only [ap, Yg, Tr.ex_iff, Tr.sep_iff]
 intro s
 refine S.I fun u => ?_
 have hX := And.intro @Y0 @Jt; repeat' (first | refine S.x ?_ | refine S.y ?_ ?_ | (refine G.call 194 ?_; refine S.c ?_ (h := xd5)) | (refine G.call 123 ?_; refine S.c ?_ (h := xbL ?_ ?_ ?_)) | rintro _ _ ⟨rfl, rfl⟩ | rintro _ _ ⟨_, rfl, rfl⟩ | (refine G.prop ?_; assumption) | intro hb | ((fail_if_success refine G.tr ?_); exact G.prop S.p) | fail)
 all_goals
  refine Tr.fin hK ⟨?_, rfl⟩ ?_
  ·((try clear hK) <;> first | (simp [*, Tb.has]; done) | fail)
  ·(have hX := I7 @Yg.eq_def @Zj.eq_def @Zi.eq_def @Tb.wait.eq_def @Tb.has.eq_def @V8 @Tb.put.eq_def; exact S.E)
theorem xq4 {a : Nat} {t : Tb} {k p : Int} (hn : t.d.length ≤ 1000000) : Xb prog 204 #[.pointer (some ⟨a, 0, none⟩), .int .i64 k, .int .i64 p] [Yg a t]
  fun v l' => v = .bool (t.rankB k p) ∧ l' = [Yg a (t.rank k p)] := by
 intro F K hK
 simp only [ap, Yg, Tr.ex_iff, Tr.sep_iff]
 intro s
 refine S.I fun u => ?_
 have hX := And.intro @Y0 @Jt; repeat' (first | refine S.x ?_ | refine S.y ?_ ?_ | (refine G.call 194 ?_; refine S.c ?_ (h := xd5)) | (refine G.call 122 ?_; refine S.c ?_ (h := QH ?_ ?_ ?_)) | rintro _ _ ⟨rfl, rfl⟩ | rintro _ _ ⟨_, rfl, rfl⟩ | (refine G.prop ?_; assumption) | intro hb | ((fail_if_success refine G.tr ?_); exact G.prop S.p) | fail)
 all_goals
  refine Tr.fin hK ⟨?_, rfl⟩ ?_
  ·((try clear hK) <;> first | (simp [*, Tb.rankB, Tb.has]; done) | fail)
  ·(have hX := I7 @Yg.eq_def @Zj.eq_def @Zi.eq_def @Tb.rank.eq_def @Tb.rankB.eq_def @Tb.has.eq_def @V8; exact S.E)
theorem xib {a : Nat} {t : Tb} {k : Int} (hn : t.d.length ≤ 1000000) : Xb prog 121 #[.pointer (some ⟨a, 0, none⟩), .int .i64 k] [Yg a t]
  fun v l' => v = .bool (t.has k) ∧ l' = [Yg a (t.park k)] := by
 intro F K hK
 simp only [ap, Yg, Tr.ex_iff, Tr.sep_iff]
 intro s
 refine S.I fun u => ?_
 have hX := And.intro @Y0 @Jt; repeat' (first | refine S.x ?_ | refine S.y ?_ ?_ | (refine G.call 194 ?_; refine S.c ?_ (h := xd5)) | (refine G.call 122 ?_; refine S.c ?_ (h := QH ?_ ?_ ?_)) | rintro _ _ ⟨rfl, rfl⟩ | rintro _ _ ⟨_, rfl, rfl⟩ | (refine G.prop ?_; assumption) | intro hb | ((fail_if_success refine G.tr ?_); exact G.prop S.p) | fail)
 all_goals
  refine Tr.fin hK ⟨?_, rfl⟩ ?_
  ·((try clear hK) <;> first | (simp [*, Tb.has]; done) | fail)
  ·(have hX := I6 @Yg.eq_def @Zj.eq_def @Zi.eq_def @Tb.park.eq_def @Tb.has.eq_def @V8; exact S.E)
theorem VP {k : Nat} (h : k < 1000000000000) : IntKind.i64.wrap ((k : Int) + 1) = ((k + 1 : Nat) : Int) := by rw [xaG S.o S.o]; rfl
theorem xpT {a : Nat} {s : SV} {t : Tb} (hn : t.d.length ≤ 1000000) : Xb prog 132 #[.pointer (some ⟨a, 0, none⟩)] [Zi a s t.turns, Zj s t.d]
  fun v l' => v = .int .i64 (t.best One.ready) ∧ l' = [Zi a s t.turns, Zj s t.d] := by
 intro F K hK
 simp only [ap]
 refine S.I fun u => ?_
 have hX := I3 @Y0 @Jt @xqp.eq_def; repeat' (first | refine S.x ?_ | fail)
 refine Tr.loopE (α := Nat) [3, 4] [0, 2] (fun k => [.int .i64 (t.bestTo One.ready k), .int .i64 k]) (fun _ => [Zi a s t.turns, Zj s t.d]) (fun k => k ≤ t.d.length) (fun k => t.d.length - k) 0 S.T rfl S.o fun k u hk => ?_
 have hbt := W5 t One.ready k
 have hw := VP (k := k) S.o
 have hX := I4 @Y0 @Jt @xqp.eq_def hw; repeat' (first | refine S.x ?_ | refine S.y ?_ ?_ | (refine G.call 198 ?_; refine S.c ?_ (h := xfa)) | rintro _ _ ⟨rfl, rfl⟩ | intro hb | fail)
 all_goals first
  | (refine Tr.againE (k + 1) (by simp only [WKb, ↓reduceIte, Nat.reduceEqDiff]) (by (try simp only [WKb, ↓reduceIte, Nat.reduceEqDiff]); ((try clear hK) <;> first | (simp [*, Tb.bestTo, One.ready, V8]; done) | fail)) S.o S.o ?_; exact S.E)
  | ((have hkk : k = t.d.length := by omega); subst hkk; refine Tr.fin hK ⟨rfl, rfl⟩ ?_; exact S.E)
theorem xbi {t : Tb} {k : Nat} : t.at (k : Int) = ix t.d k := V8 S.o
theorem WX (t : Tb) (win : Int) : ∀ k, (t.dueTo win k).length ≤ k
 | 0 => by simp [Tb.dueTo]
 | k + 1 => by
  have ih := WX t win k
  simp only [Tb.dueTo, List.length_append]
  split <;> simp <;> omega
theorem xmM {a : Nat} {s : SV} {t : Tb} {call what : Int} (hn : t.d.length ≤ 1000000) : Xb prog 128 #[.pointer (some ⟨a, 0, none⟩), .int .i64 call, .int .i64 what] [Zi a s t.turns, Zj s t.d]
  fun v l' => v = .int .i64 (t.best (One.waits call what)) ∧ l' = [Zi a s t.turns, Zj s t.d] := by
 intro F K hK
 simp only [ap]
 refine S.I fun u => ?_
 have hX := I3 @Y0 @Jt @xo7.eq_def; repeat' (first | refine S.x ?_ | fail)
 refine Tr.loopE (α := Nat) [7, 8] [0, 1, 2, 6] (fun k => [.int .i64 (t.bestTo (One.waits call what) k), .int .i64 k]) (fun _ => [Zi a s t.turns, Zj s t.d]) (fun k => k ≤ t.d.length) (fun k => t.d.length - k) 0 S.T rfl S.o fun k u hk => ?_
 have hbt := W5 t (One.waits call what) k
 have hw := VP (k := k) S.o
 have hX := I4 @Y0 @Jt @xo7.eq_def hw; repeat' (first | refine S.x ?_ | refine S.y ?_ ?_ | (refine G.call 198 ?_; refine S.c ?_ (h := xfa)) | rintro _ _ ⟨rfl, rfl⟩ | intro hb | fail)
 all_goals first
  | (have hX := I4 (And.intro @Tb.bestTo.eq_1 @Tb.bestTo.eq_2) @One.waits.eq_def @xbi @V8; exact S.R (k + 1))
  | ((have hkk : k = t.d.length := by omega); subst hkk; refine Tr.fin hK ⟨rfl, rfl⟩ ?_; exact S.E)
theorem xrK {a : Nat} {t : Tb} {win : Int} (hn : t.d.length ≤ 1000000) : Xb prog 74 #[.pointer (some ⟨a, 0, none⟩), .int .i64 win] [Yg a t]
  fun v l' => ∃ s : SV, v = s.v ∧ l' = [sl false s.v (t.dueTo win t.d.length), Yg a t] := by
 intro F K hK
 simp only [ap, Yg, Tr.ex_iff, Tr.sep_iff]
 intro s
 refine S.I fun u => ?_
 have hX := And.intro @Y0 @Jt; repeat' (first | refine S.x ?_ | fail)
 refine Tr.nilSl (α := Int) ?_
 refine Tr.loopE (α := Nat × SV) [5, 6] [0, 1, 4] (fun x => [x.2.v, .int .i64 x.1]) (fun x => [sl false x.2.v (t.dueTo win x.1), Zi a s t.turns, Zj s t.d]) (fun x => x.1 ≤ t.d.length) (fun x => t.d.length - x.1) (0, ⟨none, 0, 0⟩) S.T rfl (by simp) fun x u hk => ?_
 obtain ⟨k, s1⟩ := x
 simp only at hk ⊢
 have hbt := WX t win k
 have hw := VP (k := k) S.o
 have hX := I3 @Y0 @Jt hw; repeat' (first | refine S.x ?_ | refine S.y ?_ ?_ | intro hb | fail)
 all_goals first
  | (have hX := I4 (And.intro @Tb.dueTo.eq_1 @Tb.dueTo.eq_2) @One.due.eq_def @xbi @V8; exact S.R (k + 1, _))
  | ((have hkk : k = t.d.length := by omega); subst hkk; apply Tr.fin hK ⟨_, rfl, rfl⟩; (have hX := I3 @Yg.eq_def @Zj.eq_def @Zi.eq_def; exact S.E))
theorem le0 {x : Int} : (x ≤ 0) = (x < 1) := propext S.o
theorem xqf {a : Nat} {t : Tb} (hn : t.d.length ≤ 1000000) : Xb prog 69 #[.pointer (some ⟨a, 0, none⟩)] [Yg a t]
  fun v l' => v = .tuple #[] ∧ l' = [Yg a t.free] := by
 intro F K hK
 simp only [ap, Yg, Tr.ex_iff, Tr.sep_iff]
 intro s
 refine S.I fun u => ?_
 ((try simp only [WKb]) <;> (repeat' ((first
  | (refine G.tr ?_; first | refine S.a ?_ | refine Tr.brK ?_ ?_ | (refine G.call 122 ?_; refine S.c ?_ (h := QH ?_ ?_ ?_)) | refine S.n fun _ => ?_ | refine S.i fun hix => ?_ | (refine S.g fun hb => ?_; (try simp only [hb])) | (refine S.s (fun hb => ?_) (fun hb => ?_) <;> ((try simp only [hb]) <;> (try (have hp := hb; simp only [WKs] at hp; (try have hq := Int.not_le.2 hp); (try have hq := Int.not_lt.2 hp))))))
  | rintro _ _ ⟨_, rfl, rfl⟩
  | ((fail_if_success refine G.tr ?_); exact G.prop S.p)
  | fail) <;> (try simp only [WKb, WKh, ↓reduceIte, Nat.reduceEqDiff, Nat.reduceAdd, Nat.reduceSub, Int.reduceEq, Int.reduceLT, Int.reduceLE, Y0, Jt]))))
 refine Tr.loopE (α := Nat × SV) [2] [0] (fun x => [.int .i64 x.1]) (fun x => [Zi a x.2 (t.freeTo x.1).turns, Zj x.2 (t.freeTo x.1).d]) (fun x => x.1 ≤ t.d.length) (fun x => t.d.length - x.1) (0, s) (by (repeat (first | exact YK.nil | fail)); done) rfl (by simp) fun x u hk => ?_
 obtain ⟨k, s1⟩ := x
 simp only at hk ⊢
 have hl := Jr t k
 have hw := VP (k := k) S.o
 ((try simp only [WKb, ↓reduceIte, Nat.reduceEqDiff]) <;> (repeat' ((first
  | (refine G.tr ?_; first | refine S.a ?_ | (refine G.call 122 ?_; refine S.c ?_ (h := QH ?_ ?_ ?_)) | refine S.n fun _ => ?_ | refine S.i fun hix => ?_ | (refine S.s (fun hb => ?_) (fun hb => ?_) <;> ((try simp only [hb]) <;> (try (have hp := hb; simp only [WKs] at hp; (try have hq := Int.not_le.2 hp); (try have hq := Int.not_lt.2 hp))))))
  | rintro _ _ ⟨_, rfl, rfl⟩
  | ((fail_if_success refine G.tr ?_); exact G.prop S.p)
  | fail) <;> (try simp only [WKb, ↓reduceIte, Nat.reduceEqDiff, Nat.reduceAdd, Y0, Jt, hw]))))
 all_goals first
  | (apply Tr.againE (k + 1, _); (focus (simp only [WKb, ↓reduceIte, Nat.reduceEqDiff])); (focus ((try simp only [WKb, ↓reduceIte]); (all_goals ((repeat (refine Jl (by first | rfl | ((try clear hK) <;> first | (simp [*, Tb.freeTo, xbi, Zi, Zj]; done) | (simp [*, Tb.freeTo, xbi, Zi, Zj]; omega) | (simp [*, Tb.freeTo, xbi, Zi, Zj] <;> (try split) <;> simp_all <;> omega))) ?_)); rfl)); done)); (focus (first | omega | fail)); (focus (first | omega | fail)); (focus (((try clear hK) <;> (try simp only [WKe, Tb.freeTo, xbi, Zi, Zj, *]) <;> repeat (first | with_reducible exact Xd.done | refine S.e ?_ | refine Xd.drop (F := F) ?_ | fail)))))
  | ((have hkk : k = t.d.length := by omega); subst hkk; refine Tr.fin hK ⟨rfl, rfl⟩ ?_; ((try clear hK) <;> (try simp only [WKe, Yg, Zj, Zi, Tb.free, *]) <;> repeat (first | with_reducible exact Xd.done | refine S.e ?_ | with_reducible apply Xd.ex | fail)))
theorem xs1 {a : Nat} {t : Tb} {win : Int} (hn : t.d.length ≤ 1000000) : Xb prog 70 #[.pointer (some ⟨a, 0, none⟩), .int .i64 win] [Yg a t]
  fun v l' => ∃ s1 s2 : SV, v = .tuple #[s1.v, s2.v] ∧ l' = [sl false s1.v (t.relTo win t.d.length).rel, sl false s2.v (t.relTo win t.d.length).mis, Yg a (t.relTo win t.d.length).t] := by
 intro F K hK
 simp only [ap, Yg, Tr.ex_iff, Tr.sep_iff]
 intro s
 refine S.I fun u => ?_
 ((try simp only [WKb, Nat.reduceAdd]) <;> (repeat' ((first
  | (refine G.tr ?_; first | refine S.a ?_ | refine Tr.brK ?_ ?_ | (refine G.call 123 ?_; refine S.c ?_ (h := xbL ?_ ?_ ?_)) | (refine G.call 122 ?_; refine S.c ?_ (h := QH ?_ ?_ ?_)) | refine S.n fun _ => ?_ | refine S.i fun hix => ?_ | (refine S.g fun hb => ?_; (try simp only [hb])) | (refine S.s (fun hb => ?_) (fun hb => ?_) <;> ((try simp only [hb]) <;> (try (have hp := hb; simp only [WKs] at hp; (try have hq := Int.not_le.2 hp); (try have hq := Int.not_lt.2 hp))))))
  | rintro _ _ ⟨_, rfl, rfl⟩
  | ((fail_if_success refine G.tr ?_); exact G.prop S.p)
  | fail) <;> (try simp only [WKb, WKh, ↓reduceIte, Nat.reduceEqDiff, Nat.reduceAdd, Nat.reduceSub, Int.reduceEq, Int.reduceLT, Int.reduceLE, Y0, Jt]))))
 refine Tr.nilSl (α := Int) (Tr.nilSl (α := Int) ?_)
 refine Tr.loopE (α := Nat × SV × SV × SV) [6, 7, 8] [0, 1, 4, 5] (fun x => [x.2.1.v, x.2.2.1.v, .int .i64 x.1]) (fun x => [sl false x.2.1.v (t.relTo win x.1).rel, sl false x.2.2.1.v (t.relTo win x.1).mis, Zi a x.2.2.2 (t.relTo win x.1).t.turns, Zj x.2.2.2 (t.relTo win x.1).t.d])
  (fun x => x.1 ≤ t.d.length) (fun x => t.d.length - x.1) (0, ⟨none, 0, 0⟩, ⟨none, 0, 0⟩, s) (by (repeat (first | exact YK.nil | fail)); done) rfl (by simp) fun x u hk => ?_
 obtain ⟨k, s1, s2, s3⟩ := x
 simp only at hk ⊢
 obtain ⟨hl1, hl2, hl3⟩ := VM t win k
 have hw := VP (k := k) S.o
 have hst : t.relTo win (k + 1) = (t.relTo win k).step win k := rfl
 generalize hr : t.relTo win k = r at *
 ((try simp only [WKb, ↓reduceIte, Nat.reduceEqDiff]) <;> (repeat' ((first
  | (refine G.tr ?_; first | refine S.a ?_ | (refine G.call 123 ?_; refine S.c ?_ (h := xbL ?_ ?_ ?_)) | (refine G.call 122 ?_; refine S.c ?_ (h := QH ?_ ?_ ?_)) | refine S.n fun _ => ?_ | refine S.i fun hix => ?_ | (refine S.s (fun hb => ?_) (fun hb => ?_) <;> ((try simp only [hb]) <;> (try (have hp := hb; simp only [WKs] at hp; (try have hq := Int.not_le.2 hp); (try have hq := Int.not_lt.2 hp))))))
  | rintro _ _ ⟨_, rfl, rfl⟩
  | ((fail_if_success refine G.tr ?_); exact G.prop S.p)
  | fail) <;> (try simp only [WKb, ↓reduceIte, Nat.reduceEqDiff, Nat.reduceAdd, Y0, Jt, hw]))))
 all_goals first
  | (apply Tr.againE (k + 1, _, _, _); (focus (simp only [WKb, ↓reduceIte, Nat.reduceEqDiff])); (focus ((try simp only [WKb, ↓reduceIte, Nat.reduceEqDiff]); (all_goals ((repeat (refine Jl (by first | rfl | fail) ?_)); rfl)); done)); (focus (first | omega | fail)); (focus (first | omega | fail)); (focus (((try clear hK) <;> (try simp only [WKe, Rl.step, One.skips, le0, List.set_set, Tb.putP, Tb.putT, xbi, Zi, Zj, Tb.put, ↓reduceIte, Int.reduceEq, *]) <;> repeat (first | with_reducible exact Xd.done | refine S.e ?_ | refine Xd.drop (F := F) ?_ | fail)))))
  | ((have hkk : k = t.d.length := by omega); subst hkk; apply Tr.fin hK ⟨_, _, rfl, rfl⟩; ((try clear hK) <;> (try simp only [WKe, Yg, Zj, Zi, *]) <;> repeat (first | with_reducible exact Xd.done | refine S.e ?_ | with_reducible apply Xd.ex | fail)))
theorem xeV {l : List xja} {k : Nat} (h : k < l.length) : (List.map One.new (l.take (k + 1))).map Y9.mk = ((l.take k).map One.new).map Y9.mk ++ [Y9.mk (One.new (ix l k))] := by
 rw [List.take_succ_eq_append_getElem h, List.map_append, List.map_append]; simp [ix, h]
theorem xf6 (s : SV) (l : List xja) : Xb prog 60 #[s.v] [sl true s.v l]
  fun v l' => ∃ a, v = .pointer (some ⟨a, 0, none⟩) ∧ l' = [Yg a (Tb.new l), sl true s.v l] := by
 intro F K hK
 simp only [ap]
 refine S.I fun u => ?_
 ((try simp only [WKb]) <;> (repeat' ((first
  | (refine G.tr ?_; first | refine S.a ?_ | refine S.n fun _ => ?_ | fail)
  | fail) <;> (try simp only [WKb, ↓reduceIte]))))
 rename_i a
 refine Tr.nilSl (α := Y9) ?_
 refine Tr.loopE (α := Nat × SV) [4] [0, 2, 3] (fun x => [.int .i64 x.1]) (fun x => [Zi a x.2 0, Zj x.2 ((l.take x.1).map One.new), sl true s.v l]) (fun x => x.1 ≤ l.length ∧ x.1 ≤ 8) (fun x => 8 - x.1) (0, ⟨none, 0, 0⟩) (by (repeat (first | exact YK.nil | (apply YK.cons; focus ((first | ((repeat (first | exact Xm.here | apply Xm.next)); done) | fail))) | fail)); done) rfl (by simp) fun x u hk => ?_
 obtain ⟨k, s1⟩ := x
 simp only at hk ⊢
 have hw := VP (k := k) S.o
 have hl1 : (l.take k).length = k := by rw [List.length_take]; omega
 ((try simp only [WKb, ↓reduceIte, Nat.reduceEqDiff]) <;> (repeat' ((first
  | (refine G.tr ?_; first | refine S.a ?_ | refine S.n fun _ => ?_ | refine S.i fun hix => ?_ | (refine S.s (fun hb => ?_) (fun hb => ?_) <;> ((try simp only [hb]) <;> (try (have hp := hb; simp only [WKs] at hp; (try have hq := Int.not_le.2 hp); (try have hq := Int.not_lt.2 hp))))))
  | refine Tr.build1 (Y9.mk (One.new _)) rfl rfl (by decide) fun _ => ?_
  | fail) <;> (try simp only [WKb, WKh, ↓reduceIte, Nat.reduceEqDiff, Nat.reduceAdd, xwq, hw]))))
 all_goals first
  | (have htk := xeV (l := l) (k := k) S.o; (apply Tr.againE (k + 1, _); (focus (simp only [WKb, ↓reduceIte, Nat.reduceEqDiff])); (focus ((try simp only [WKb, ↓reduceIte]); (all_goals ((repeat (refine Jl (by first | rfl | ((try clear hK) <;> first | (simp [*, Zi, Zj, htk]; done) | (simp [*, Zi, Zj, htk]; omega) | (simp [*, Zi, Zj, htk] <;> (try split) <;> simp_all <;> omega))) ?_)); rfl)); done)); (focus (first | omega | fail)); (focus (first | omega | fail)); (focus (((try clear hK) <;> (try simp only [WKe, Zi, Zj, *]) <;> repeat (first | with_reducible exact Xd.done | refine S.e ?_ | refine Xd.drop (F := F) ?_ | fail))))))
  | ((have hkk : l.take k = l.take 8 := by first | (rw [show k = 8 by omega]) | (rw [List.take_of_length_le S.o, List.take_of_length_le S.o])); apply Tr.fin hK ⟨_, rfl, rfl⟩; ((try clear hK) <;> (try simp only [WKe, Yg, Zj, Zi, Tb.new, *]) <;> repeat (first | with_reducible exact Xd.done | refine S.e ?_ | with_reducible apply Xd.ex | fail)))
instance : xqk prog 3 .i64 := ⟨Tryz.underlying3⟩
instance : xqk prog 5 .u8 := ⟨Tryz.underlying5⟩
instance : xjE prog 9 := ⟨Tryz.underlying9⟩
instance xxk : xo6 prog 76 := xnp (by kernel_rfl)
instance : xqt prog 86 0 0 1 false := .k
instance xwY : xuK prog 196 5 2 := xmI (by kernel_rfl)
instance : xqk prog 263 .u64 := ⟨Tryz.underlying263⟩
instance xr9 : xjl prog 121 "anchorhold/port.put" 269 := ⟨by kernel_rfl⟩
instance xrQ : xjl prog 121 "anchorhold/port.len" 268 := ⟨by kernel_rfl⟩
instance xr1 : xjl prog 124 "anchorhold/port.put" 271 := ⟨by kernel_rfl⟩
instance xsg : xjl prog 124 "anchorhold/port.len" 270 := ⟨by kernel_rfl⟩
instance : Zer prog 121 (.pointer none) := ⟨by kernel_rfl⟩
instance xwf : xtd prog 121 := ⟨by kernel_rfl⟩
instance : Zer prog 124 (.pointer none) := ⟨by kernel_rfl⟩
instance xvX : xtd prog 124 := ⟨by kernel_rfl⟩
def Zk (acts : List Int) (k : Int) : Int := if acts.length ≤ k then 0 else if ix acts k < 0 then 0 else if 4 < ix acts k then 0 else ix acts k
abbrev xeU (b : Nat) (a0 a1 a2 a3 a4 c0 c1 c2 c3 c4 k p : Int) : Xc := blk b (.cells #[.int .i64 a0, .int .i64 c0, .int .i64 a1, .int .i64 c1, .int .i64 a2, .int .i64 c2, .int .i64 a3, .int .i64 c3, .int .i64 a4, .int .i64 c4, .int .i64 k, .int .i64 p, .bool true] 198 (0, 0))
structure xxD where
 c0 : Int
 c1 : Int
 c2 : Int
 c3 : Int
 c4 : Int
 k : Int
 p : Int
def xsI (b : Nat) (acts : List Int) : Xc := ex fun m : xxD => xeU b (Zk acts 0) (Zk acts 1) (Zk acts 2) (Zk acts 3) (Zk acts 4) m.c0 m.c1 m.c2 m.c3 m.c4 m.k m.p
theorem Wl {n : Int} : Xb prog 116 #[.int .i64 n] [] fun v l' => v = .bool (decide (0 ≤ n) && decide (n < 5)) ∧ l' = [] := by
 intro F K hK
 simp only [List.nil_append]
 refine S.I fun u => ?_
 repeat' (first | refine S.x ?_ | refine S.y ?_ ?_ | intro hb | fail)
 all_goals exact S.L
theorem xpf {b : Nat} {a0 a1 a2 a3 a4 c0 c1 c2 c3 c4 k p : Int} : Xb prog 223 #[.pointer (some ⟨b, 0, none⟩)] [xeU b a0 a1 a2 a3 a4 c0 c1 c2 c3 c4 k p] fun v l' => v = .bool false ∧ l' = [xeU b a0 a1 a2 a3 a4 c0 c1 c2 c3 c4 k p] := by
 intro F K hK
 simp only [ap]
 refine S.I fun u => ?_
 repeat' (first | refine S.x ?_ | fail)
 all_goals exact S.L
theorem xi3 {b : Nat} {acts : List Int} {k p : Int} (h0 : 0 ≤ k) (h4 : k ≤ 4) : Xb prog 143 #[.pointer (some ⟨b, 0, none⟩), .int .i64 k, .int .i64 p] [xsI b acts] fun v l' => v = .int .i64 (Zk acts k) ∧ l' = [xsI b acts] := by
 intro F K hK
 simp only [ap] at hK ⊢
 refine Tr.ex_iff.2 fun m => ?_
 have hk : k = 0 ∨ k = 1 ∨ k = 2 ∨ k = 3 ∨ k = 4 := by omega
 rcases hk with rfl | rfl | rfl | rfl | rfl
 all_goals
  refine S.I fun u => ?_
  have hX := @xty.eq_def; repeat' (first | refine S.x ?_ | (refine G.call 223 ?_; refine S.c ?_ (h := xpf)) | (refine G.call 116 ?_; refine S.c ?_ (h := Wl)) | rintro _ _ ⟨rfl, rfl⟩ | fail)
  all_goals
   refine Tr.fin hK ⟨rfl, rfl⟩ ?_
   (try simp)
   first
    | exact Xd.ex ⟨IntKind.i64.wrap (m.c0 + 1), m.c1, m.c2, m.c3, m.c4, 0, p⟩ (Xd.take Xm.here Xd.done)
    | exact Xd.ex ⟨m.c0, IntKind.i64.wrap (m.c1 + 1), m.c2, m.c3, m.c4, 1, p⟩ (Xd.take Xm.here Xd.done)
    | exact Xd.ex ⟨m.c0, m.c1, IntKind.i64.wrap (m.c2 + 1), m.c3, m.c4, 2, p⟩ (Xd.take Xm.here Xd.done)
    | exact Xd.ex ⟨m.c0, m.c1, m.c2, IntKind.i64.wrap (m.c3 + 1), m.c4, 3, p⟩ (Xd.take Xm.here Xd.done)
    | exact Xd.ex ⟨m.c0, m.c1, m.c2, m.c3, IntKind.i64.wrap (m.c4 + 1), 4, p⟩ (Xd.take Xm.here Xd.done)
theorem xug {ro : Bool} {v : Value} {acts : List Int} {k : Int} (h0 : 0 ≤ k) (h4 : k ≤ 4) : Xb prog 124 #[v, .int .i64 k] [sl ro v acts] fun u l' => u = .int .i64 (Zk acts k) ∧ l' = [sl ro v acts] := by
 intro F K hK
 simp only [ap] at hK ⊢
 refine S.I fun u => ?_
 repeat' (first | refine S.x ?_ | refine S.y ?_ ?_ | intro hb | fail)
 all_goals
  have hX := @Zk.eq_def
  exact S.L
