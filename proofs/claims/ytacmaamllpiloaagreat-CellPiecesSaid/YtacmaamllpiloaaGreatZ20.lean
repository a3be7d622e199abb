import Derived.Test.YtacmaamllpiloaaGreatZ19
namespace Go.Proofs.YtacmaamllpiloaaGreat
open Go Go.Wk Tryz
set_option maxHeartbeats 6400000
set_option maxRecDepth 10000
theorem xgT {n : Nat} {s : Int} : xa0 n s = true ↔ 1 ≤ (n : Int) ∧ (n : Int) ≤ s := by unfold xa0; simp; omega
section
variable {α : Type} {f : α → List (List UInt8)} {gs : List α} {xs : List (SL Msg)}
theorem xcy (h : xs.map omo = gs.map f) : xs.length = gs.length := by simpa using congrArg List.length h
theorem xpb [Inhabited α] (h : xs.map omo = gs.map f) {k : Int} (hr : inR gs k) : (ix xs k).d.map SL.d = f (ix gs k) := by
 have hl := xcy h
 rw [← Xp (f := f) hr.1 hr.2, ← h, Xp (f := omo) hr.1 (by have := hr.2; omega)]; rfl
theorem xgr (h : xs.map omo = gs.map f) {k : Nat} {y : SL Msg} {g : α} (hg : omo y = f g) : (xs.set k y).map omo = (gs.set k g).map f := by rw [List.map_set, List.map_set, h, hg]
end
section
attribute [local irreducible] BrK Xq Xt Xv XI FnK XZ Xw XC XV opX opK Yq Yk eqR Yj Yo Ys WL WD W X3 XO Tr drewK Ya X4 Yw Yv X1 YB mp blk rob sl sep ex fact old Instr.storeAt Instr.loadAt Instr.fieldAt Instr.indexAt Instr.lookup Instr.mapUpdate Instr.box Instr.alloc Instr.build Instr.buildSlice Instr.makeSlice Instr.makeMap Instr.sliceAt Instr.field Instr.index Instr.makeInterface Instr.typeAssert Builtin.len_ Builtin.append_ Builtin.cap_ Builtin.min_ Builtin.max_ Builtin.copy_ Builtin.clear_ convert binOp
theorem xmS {r : Nat} {o : ObW} {gS : List XL} {gF : List Xr} {xs ys : List (SL Msg)} {gP : List Xu} {k : Int} {s : SV} {m : List UInt8} {cp : List JC} (h1 : gS.length ≤ 100000) (h2 : gF.length ≤ 100000) (h3 : xs.length ≤ 100000) (h4 : ys.length ≤ 100000) (hx : xs.map omo = gP.map Xu.mm) (hm : (ix gP k).ms.length ≤ 100000) (hcp : ∀ k : Int, inR gP k → k < cp.length ∧ (ix cp k).size = (ix gP k).size ∧ (ix cp k).depth = (ix gP k).depth) :
  Xb prog 216 #[.pointer (some ⟨r, 0, none⟩), .int .i64 k, s.v] [rOB r o, sl false o.ss.v (gS.map XL.count), sl false o.fs.v (gF.map Xr.up), sl false o.ps.v xs, fzl xs, sl false o.ls.v ys, fzl ys, sl true s.v m, sl true o.c.pools.v cp]
  fun v l' => ∃ a b c d xs2, (∀ s1 s4, xs2.map omo = (QS gP k s1 ⟨s4, m⟩).map Xu.mm) ∧ v = .int .i64 (Qt gP k m.length) ∧ l' = [rOB r ⟨o.c, a, b, c, d⟩, sl false (SV.v a) ((gS).map XL.count), sl false (SV.v b) ((gF).map Xr.up), sl false (SV.v c) xs2, fzl xs2, sl false (SV.v d) ys, fzl ys] := by
 intro F K hK
 simp only [ap]
 have hl1 : (gS.map XL.count).length = gS.length := List.length_map _
 have hl2 : (gF.map Xr.up).length = gF.length := List.length_map _
 have hlx := xcy hx
 refine S.I fun u => ?_
 by_cases h : inR gP k
 ·have ⟨h0, h1'⟩ := h
  have hms := xpb hx h
  have hlm : (ix xs k).d.length = (ix gP k).ms.length := by have := congrArg List.length hms; simpa [Xu.mm] using this
  obtain ⟨hc1, hc2, hc3⟩ := hcp k h
  cases hf : xa0 m.length (ix gP k).size
  ·have hI : ∀ s1 s4, QS gP k s1 ⟨s4, m⟩ = gP := fun s1 s4 => by simp [QS, Qt, h, hf]
   have hf' : ¬ (1 ≤ (m.length : Int) ∧ (m.length : Int) ≤ (ix gP k).size) := fun h => by rw [xgT.2 h] at hf; cases hf
   ((try simp only [WKb, ↓reduceIte, Nat.reduceEqDiff, Nat.reduceAdd]) <;> (repeat' ((first
  | (refine G.tr ?_; first | refine S.a ?_ | refine S.i fun hix => ?_ | (refine S.g fun hb => ?_; (try simp only [hb])) | (refine S.s (fun hb => ?_) (fun hb => ?_) <;> ((try simp only [hb]) <;> (try (have hp := hb; simp only [WKs] at hp; (try have hq := Int.not_le.2 hp); (try have hq := Int.not_lt.2 hp))))))
  | fail) <;> (try simp only [WKb, ↓reduceIte, Nat.reduceEqDiff, hc2]))))
   all_goals
    apply Tr.fin hK ⟨o.ss, o.fs, o.ps, o.ls, xs, (fun s1 s4 => by rw [hI]; exact hx), (by first | (simp [*, Qt]; done) | fail), rfl⟩
    ((try clear hK) <;> (try simp only [WKe, *]) <;> repeat (first | with_reducible exact Xd.done | refine S.e ?_ | refine Xd.drop (F := F) ?_ | fail))
  ·have hf' := xgT.1 hf
   by_cases hd : (ix gP k).depth ≤ (ix gP k).ms.length
   ·have hI : ∀ s1 s4, QS gP k s1 ⟨s4, m⟩ = gP := fun s1 s4 => by simp [QS, Qt, h, hf, hd]
    ((try simp only [WKb, ↓reduceIte, Nat.reduceEqDiff, Nat.reduceAdd]) <;> (repeat' ((first
  | (refine G.tr ?_; first | refine S.a ?_ | refine S.i fun hix => ?_ | (refine S.g fun hb => ?_; (try simp only [hb])) | fail)
  | fail) <;> (try simp only [WKb, ↓reduceIte, Nat.reduceEqDiff, Nat.reduceAdd, xtD, hc2, hc3, hlm]))))
    all_goals
     apply Tr.fin hK ⟨o.ss, o.fs, o.ps, o.ls, xs, (fun s1 s4 => by rw [hI]; exact hx), (by first | (simp [*, Qt]; done) | fail), rfl⟩
     ((try clear hK) <;> (try simp only [WKe, *]) <;> repeat (first | with_reducible exact Xd.done | refine S.e ?_ | refine Xd.drop (F := F) ?_ | fail))
   ·have hI : ∀ s1 s4, QS gP k s1 ⟨s4, m⟩ = gP.set k.toNat { ix gP k with s := s1, ms := (ix gP k).ms ++ [⟨s4, m⟩] } := fun s1 s4 => by simp [QS, Qt, h, hf, hd]
    have hS : ∀ t s1 s4, (xs.set k.toNat ⟨t, (ix xs k).d ++ [⟨s, m⟩]⟩).map omo = (QS gP k s1 ⟨s4, m⟩).map Xu.mm := fun t s1 s4 => by
     rw [hI]; exact xgr hx (by simp only [omo, List.map_append, hms]; simp [Xu.mm])
    ((try simp only [WKb, ↓reduceIte, Nat.reduceEqDiff, Nat.reduceAdd]) <;> (repeat' ((first
  | (refine G.tr ?_; first | refine S.a ?_ | refine Tr.brK ?_ ?_ | (refine G.call 241 ?_; refine S.c ?_ (h := J9 ?_ ?_ ?_ ?_)) | (refine G.call 238 ?_; refine S.c ?_ (h := ZT)) | refine S.n fun _ => ?_ | refine S.i fun hix => ?_ | (refine S.g fun hb => ?_; (try simp only [hb])) | fail)
  | rintro _ _ ⟨rfl, rfl⟩
  | rintro _ _ ⟨_, _, _, _, _, rfl, rfl⟩
  | (refine G.store ?_; refine Tr.freezeAt (α := Msg) (by (repeat (first | exact Xm.here | fail)); done) ?_)
  | ((fail_if_success refine G.tr ?_); exact G.prop S.p)
  | fail) <;> (try simp only [WKb, ↓reduceIte, Nat.reduceEqDiff, Nat.reduceAdd, xtD, hc2, hc3, hlm]))))
    all_goals
     apply Tr.fin hK ⟨_, _, _, _, _, hS _, (by first | (simp [*, Qt]; done) | fail), rfl⟩
     ((try clear hK) <;> (try simp only [WKe, *]) <;> repeat (first | with_reducible exact Xd.done | refine S.e ?_ | refine Xd.drop (F := F) ?_ | fail))
 ·have h' := h
  unfold inR at h'
  have hI : ∀ s1 s4, QS gP k s1 ⟨s4, m⟩ = gP := fun s1 s4 => by simp [QS, Qt, h]
  ((try simp only [WKb, ↓reduceIte, Nat.reduceEqDiff, Nat.reduceAdd]) <;> (repeat' ((first
  | (refine G.tr ?_; first | refine S.a ?_ | (refine S.s (fun hb => ?_) (fun hb => ?_) <;> ((try simp only [hb]) <;> (try (have hp := hb; simp only [WKs] at hp; (try have hq := Int.not_le.2 hp); (try have hq := Int.not_lt.2 hp))))))
  | fail) <;> (try simp only [WKb, ↓reduceIte, Nat.reduceEqDiff]))))
  all_goals
   apply Tr.fin hK ⟨o.ss, o.fs, o.ps, o.ls, xs, (fun s1 s4 => by rw [hI]; exact hx), (by first | (simp [*, Qt]; done) | fail), rfl⟩
   ((try clear hK) <;> (try simp only [WKe, *]) <;> repeat (first | with_reducible exact Xd.done | refine S.e ?_ | refine Xd.drop (F := F) ?_ | fail))
theorem xsu {r : Nat} {o : ObW} {gS : List XL} {gF : List Xr} {xs ys : List (SL Msg)} {gP : List Xu} {k : Int} (h1 : gS.length ≤ 100000) (h2 : gF.length ≤ 100000) (h3 : xs.length ≤ 100000) (h4 : ys.length ≤ 100000) (hx : xs.map omo = gP.map Xu.mm) (hm : (ix gP k).ms.length ≤ 100000) :
  Xb prog 215 #[.pointer (some ⟨r, 0, none⟩), .int .i64 k] [rOB r o, sl false o.ss.v (gS.map XL.count), sl false o.fs.v (gF.map Xr.up), sl false o.ps.v xs, fzl xs, sl false o.ls.v ys, fzl ys]
  fun v l' => ∃ a b c d xs2 t, (∀ s1, xs2.map omo = (xaK gP k s1).map Xu.mm) ∧ v = .tuple #[SV.v t, .int .i64 (Wn gP k)] ∧ l' = [Fz.fz (SL.mk t (W1 gP k).d : Msg), rOB r ⟨o.c, a, b, c, d⟩, sl false (SV.v a) ((gS).map XL.count), sl false (SV.v b) ((gF).map Xr.up), sl false (SV.v c) xs2, fzl xs2, sl false (SV.v d) ys, fzl ys] := by
 intro F K hK
 simp only [ap]
 have hl1 : (gS.map XL.count).length = gS.length := List.length_map _
 have hl2 : (gF.map Xr.up).length = gF.length := List.length_map _
 have hlx := xcy hx
 have hdm : (⟨⟨none, 0, 0⟩, []⟩ : Msg) = default := rfl
 refine S.I fun u => ?_
 by_cases h : inR gP k
 ·have ⟨h0, h1'⟩ := h
  have hms := xpb hx h
  have hlm : (ix xs k).d.length = (ix gP k).ms.length := by have := congrArg List.length hms; simpa [Xu.mm] using this
  by_cases he : ((ix gP k).ms.length : Int) = 0
  ·have hI : ∀ s1, xaK gP k s1 = gP := fun s1 => by simp only [xaK, Wn, h, he, if_true]; rfl
   have hD : (W1 gP k).d = [] := by simp only [W1, Wn, h, he, if_true]; rfl
   ((try simp only [WKb, ↓reduceIte, Nat.reduceEqDiff, Nat.reduceAdd]) <;> (repeat' ((first
  | (refine G.tr ?_; first | refine S.a ?_ | refine S.i fun hix => ?_ | (refine S.g fun hb => ?_; (try simp only [hb])) | fail)
  | fail) <;> (try simp only [WKb, ↓reduceIte, Nat.reduceEqDiff, hlm]))))
   all_goals
    apply Tr.fin hK ⟨o.ss, o.fs, o.ps, o.ls, xs, ⟨none, 0, 0⟩, (fun s1 => by rw [hI]; exact hx), (by first | (simp only [↓reduceIte, *, Wn]; rfl)), rfl⟩
    ((try clear hK) <;> (try simp only [WKe, *]) <;> repeat (first | with_reducible exact Xd.done | refine S.e ?_ | fail))
  ·have hI : ∀ s1, xaK gP k s1 = gP.set k.toNat { ix gP k with s := s1, ms := (ix gP k).ms.drop 1 } := fun s1 => by simp only [xaK, Wn, h, he, if_true, if_false]
   have hD : (W1 gP k).d = (ix (ix xs k).d 0).d := by
    have : (W1 gP k) = ix (ix gP k).ms 0 := by simp only [W1, Wn, h, he, if_true, if_false]
    rw [this, ← Xp (f := SL.d) S.o S.o, ← Xp (xs := (ix xs k).d) (f := SL.d) S.o S.o, hms]; rfl
   have hS : ∀ t s1, (xs.set k.toNat ⟨t, (ix xs k).d.drop (Int.toNat 1)⟩).map omo = (xaK gP k s1).map Xu.mm := fun t s1 => by
    rw [hI]; exact xgr hx (by simp only [omo, List.map_drop, hms]; simp [Xu.mm])
   ((try simp only [WKb, ↓reduceIte, Nat.reduceEqDiff, Nat.reduceAdd]) <;> (repeat' ((first
  | (refine G.tr ?_; first | refine S.d ?_ | refine S.a ?_ | (refine G.call 241 ?_; refine S.c ?_ (h := J9 ?_ ?_ ?_ ?_)) | (refine G.call 238 ?_; refine S.c ?_ (h := ZT)) | refine S.n fun _ => ?_ | refine S.i fun hix => ?_ | (refine S.g fun hb => ?_; (try simp only [hb])) | fail)
  | rintro _ _ ⟨rfl, rfl⟩
  | rintro _ _ ⟨_, _, _, _, _, rfl, rfl⟩
  | (refine G.store ?_; refine Tr.freezeAt (α := Msg) (by (repeat (first | exact Xm.here | fail)); done) ?_)
  | ((fail_if_success refine G.tr ?_); exact G.prop S.p)
  | fail) <;> (try simp only [WKb, ↓reduceIte, Nat.reduceEqDiff, Nat.reduceAdd, xtQ, hlm]))))
   all_goals
    apply Tr.fin hK ⟨_, _, _, _, _, (ix (ix xs k).d 0).s, hS _, (by first | (simp only [↓reduceIte, eq_self, *, Wn]; done) | fail), rfl⟩
    ((try clear hK) <;> (try simp only [WKe, *]) <;> repeat (first | with_reducible exact Xd.done | refine S.e ?_ | refine Xd.drop (F := F) ?_ | fail))
 ·have h' := h
  unfold inR at h'
  have hI : ∀ s1, xaK gP k s1 = gP := fun s1 => by simp [xaK, Wn, h]
  have hD : (W1 gP k).d = [] := by simp only [W1, Wn, h, if_false]; rfl
  ((try simp only [WKb, ↓reduceIte, Nat.reduceEqDiff, Nat.reduceAdd]) <;> (repeat' ((first
  | (refine G.tr ?_; first | refine S.a ?_ | (refine S.s (fun hb => ?_) (fun hb => ?_) <;> ((try simp only [hb]) <;> (try (have hp := hb; simp only [WKs] at hp; (try have hq := Int.not_le.2 hp); (try have hq := Int.not_lt.2 hp))))))
  | fail) <;> (try simp only [WKb, ↓reduceIte, Nat.reduceEqDiff]))))
  all_goals
   apply Tr.fin hK ⟨o.ss, o.fs, o.ps, o.ls, xs, ⟨none, 0, 0⟩, (fun s1 => by rw [hI]; exact hx), (by first | (simp only [↓reduceIte, *, Wn]; rfl)), rfl⟩
   ((try clear hK) <;> (try simp only [WKe, *]) <;> repeat (first | with_reducible exact Xd.done | refine S.e ?_ | fail))
theorem xoX {r : Nat} {o : ObW} {gS : List XL} {gF : List Xr} {xs ys : List (SL Msg)} {gL : List Xi} {k : Int} {s : SV} {m : List UInt8} {cl : List Int} (h1 : gS.length ≤ 100000) (h2 : gF.length ≤ 100000) (h3 : xs.length ≤ 100000) (h4 : ys.length ≤ 100000) (hy : ys.map omo = gL.map Xi.mm) (hcl : ∀ k : Int, inR gL k → k < cl.length ∧ ix cl k = (ix gL k).size) :
  Xb prog 217 #[.pointer (some ⟨r, 0, none⟩), .int .i64 k, s.v] [rOB r o, sl false o.ss.v (gS.map XL.count), sl false o.fs.v (gF.map Xr.up), sl false o.ps.v xs, fzl xs, sl false o.ls.v ys, fzl ys, sl true s.v m, sl true o.c.slates.v cl]
  fun v l' => ∃ a b c d ys2, (∀ s4, ys2.map omo = (Vm gL k ⟨s4, m⟩).map Xi.mm) ∧ v = .int .i64 (Vl gL k m.length) ∧ l' = [rOB r ⟨o.c, a, b, c, d⟩, sl false (SV.v a) ((gS).map XL.count), sl false (SV.v b) ((gF).map Xr.up), sl false (SV.v c) xs, fzl xs, sl false (SV.v d) ys2, fzl ys2] := by
 intro F K hK
 simp only [ap]
 have hl1 : (gS.map XL.count).length = gS.length := List.length_map _
 have hl2 : (gF.map Xr.up).length = gF.length := List.length_map _
 have hlx := xcy hy
 refine S.I fun u => ?_
 by_cases h : inR gL k
 ·have ⟨h0, h1'⟩ := h
  obtain ⟨hc1, hc2⟩ := hcl k h
  cases hf : xa0 m.length (ix gL k).size
  ·have hI : ∀ s4, Vm gL k ⟨s4, m⟩ = gL := fun s4 => by simp [Vm, Vl, h, hf]
   have hf' : ¬ (1 ≤ (m.length : Int) ∧ (m.length : Int) ≤ (ix gL k).size) := fun h => by rw [xgT.2 h] at hf; cases hf
   ((try simp only [WKb, ↓reduceIte, Nat.reduceEqDiff, Nat.reduceAdd]) <;> (repeat' ((first
  | (refine G.tr ?_; first | refine S.a ?_ | refine S.i fun hix => ?_ | (refine S.g fun hb => ?_; (try simp only [hb])) | (refine S.s (fun hb => ?_) (fun hb => ?_) <;> ((try simp only [hb]) <;> (try (have hp := hb; simp only [WKs] at hp; (try have hq := Int.not_le.2 hp); (try have hq := Int.not_lt.2 hp))))))
  | fail) <;> (try simp only [WKb, ↓reduceIte, Nat.reduceEqDiff, hc2]))))
   all_goals
    apply Tr.fin hK ⟨o.ss, o.fs, o.ps, o.ls, ys, (fun s4 => by rw [hI]; exact hy), (by first | (simp [*, Vl]; done) | fail), rfl⟩
    ((try clear hK) <;> (try simp only [WKe, *]) <;> repeat (first | with_reducible exact Xd.done | refine S.e ?_ | refine Xd.drop (F := F) ?_ | fail))
  ·have hf' := xgT.1 hf
   have hI : ∀ s4, Vm gL k ⟨s4, m⟩ = gL.set k.toNat { ix gL k with m := ⟨s4, m⟩, shown := true } := fun s4 => by simp [Vm, Vl, h, hf]
   have hS : ∀ t s4, (ys.set k.toNat ⟨t, [⟨s, m⟩]⟩).map omo = (Vm gL k ⟨s4, m⟩).map Xi.mm := fun t s4 => by
    rw [hI]; exact xgr hy rfl
   ((try simp only [WKb, ↓reduceIte, Nat.reduceEqDiff, Nat.reduceAdd]) <;> (repeat' ((first
  | (refine G.tr ?_; first | refine S.a ?_ | (refine G.call 241 ?_; refine S.c ?_ (h := J9 ?_ ?_ ?_ ?_)) | (refine G.call 238 ?_; refine S.c ?_ (h := ZT)) | refine S.n fun _ => ?_ | refine S.i fun hix => ?_ | (refine S.g fun hb => ?_; (try simp only [hb])) | fail)
  | rintro _ _ ⟨rfl, rfl⟩
  | rintro _ _ ⟨_, _, _, _, _, rfl, rfl⟩
  | (refine G.store ?_; refine Tr.freezeAt (α := Msg) (by (repeat (first | exact Xm.here | fail)); done) ?_)
  | ((fail_if_success refine G.tr ?_); exact G.prop S.p)
  | fail) <;> (try simp only [WKb, ↓reduceIte, Nat.reduceEqDiff, hc2]))))
   all_goals
    apply Tr.fin hK ⟨_, _, _, _, _, hS _, (by first | (simp [*, Vl]; done) | fail), rfl⟩
    ((try clear hK) <;> (try simp only [WKe, *]) <;> repeat (first | with_reducible exact Xd.done | refine S.e ?_ | refine Xd.drop (F := F) ?_ | fail))
 ·have h' := h
  unfold inR at h'
  have hI : ∀ s4, Vm gL k ⟨s4, m⟩ = gL := fun s4 => by simp [Vm, Vl, h]
  ((try simp only [WKb, ↓reduceIte, Nat.reduceEqDiff, Nat.reduceAdd]) <;> (repeat' ((first
  | (refine G.tr ?_; first | refine S.a ?_ | (refine S.s (fun hb => ?_) (fun hb => ?_) <;> ((try simp only [hb]) <;> (try (have hp := hb; simp only [WKs] at hp; (try have hq := Int.not_le.2 hp); (try have hq := Int.not_lt.2 hp))))))
  | fail) <;> (try simp only [WKb, ↓reduceIte, Nat.reduceEqDiff]))))
  all_goals
   apply Tr.fin hK ⟨o.ss, o.fs, o.ps, o.ls, ys, (fun s4 => by rw [hI]; exact hy), (by first | (simp [*, Vl]; done) | fail), rfl⟩
   ((try clear hK) <;> (try simp only [WKe, *]) <;> repeat (first | with_reducible exact Xd.done | refine S.e ?_ | refine Xd.drop (F := F) ?_ | fail))
theorem xoG {r : Nat} {o : ObW} {gS : List XL} {gF : List Xr} {xs ys : List (SL Msg)} {gL : List Xi} {k : Int} (h1 : gS.length ≤ 100000) (h2 : gF.length ≤ 100000) (h3 : xs.length ≤ 100000) (h4 : ys.length ≤ 100000) (hy : ys.map omo = gL.map Xi.mm) :
  Xb prog 219 #[.pointer (some ⟨r, 0, none⟩), .int .i64 k] [rOB r o, sl false o.ss.v (gS.map XL.count), sl false o.fs.v (gF.map Xr.up), sl false o.ps.v xs, fzl xs, sl false o.ls.v ys, fzl ys]
  fun v l' => ∃ a b c d ys2, ys2.map omo = (V2 gL k).map Xi.mm ∧ v = .int .i64 (xcT gL k) ∧ l' = [rOB r ⟨o.c, a, b, c, d⟩, sl false (SV.v a) ((gS).map XL.count), sl false (SV.v b) ((gF).map Xr.up), sl false (SV.v c) xs, fzl xs, sl false (SV.v d) ys2, fzl ys2] := by
 intro F K hK
 simp only [ap]
 have hl1 : (gS.map XL.count).length = gS.length := List.length_map _
 have hl2 : (gF.map Xr.up).length = gF.length := List.length_map _
 have hlx := xcy hy
 refine S.I fun u => ?_
 by_cases h : inR gL k
 ·have ⟨h0, h1'⟩ := h
  have hI : V2 gL k = gL.set k.toNat { ix gL k with m := ⟨⟨none, 0, 0⟩, []⟩, shown := false } := by simp [V2, h]
  have hde : (⟨⟨none, 0, 0⟩, []⟩ : SL Msg) = default := rfl
  have hS : (ys.set k.toNat default).map omo = (V2 gL k).map Xi.mm := by rw [hI]; exact xgr hy rfl
  ((try simp only [WKb, ↓reduceIte, Nat.reduceEqDiff, Nat.reduceAdd]) <;> (repeat' ((first
  | (refine G.tr ?_; first | refine S.a ?_ | (refine G.call 241 ?_; refine S.c ?_ (h := J9 ?_ ?_ ?_ ?_)) | (refine G.call 238 ?_; refine S.c ?_ (h := ZT)) | refine S.i fun hix => ?_ | (refine S.g fun hb => ?_; (try simp only [hb])) | fail)
  | rintro _ _ ⟨rfl, rfl⟩
  | rintro _ _ ⟨_, _, _, _, _, rfl, rfl⟩
  | ((fail_if_success refine G.tr ?_); exact G.prop S.p)
  | fail) <;> (try simp only [WKb, ↓reduceIte, Nat.reduceEqDiff]))))
  all_goals
   apply Tr.fin hK ⟨_, _, _, _, _, hS, (by first | (simp [*, xcT]; done) | fail), rfl⟩
   ((try clear hK) <;> (try simp only [WKe, *]) <;> repeat (first | with_reducible exact Xd.done | refine S.e ?_ | refine Xd.drop (F := F) ?_ | fail))
 ·have h' := h
  unfold inR at h'
  have hI : V2 gL k = gL := by simp [V2, h]
  ((try simp only [WKb, ↓reduceIte, Nat.reduceEqDiff, Nat.reduceAdd]) <;> (repeat' ((first
  | (refine G.tr ?_; first | refine S.a ?_ | (refine S.s (fun hb => ?_) (fun hb => ?_) <;> ((try simp only [hb]) <;> (try (have hp := hb; simp only [WKs] at hp; (try have hq := Int.not_le.2 hp); (try have hq := Int.not_lt.2 hp))))))
  | fail) <;> (try simp only [WKb, ↓reduceIte, Nat.reduceEqDiff]))))
  all_goals
   apply Tr.fin hK ⟨o.ss, o.fs, o.ps, o.ls, ys, (by rw [hI]; exact hy), (by first | (simp [*, xcT]; done) | fail), rfl⟩
   ((try clear hK) <;> (try simp only [WKe, *]) <;> repeat (first | with_reducible exact Xd.done | fail))
theorem xqC {r : Nat} {o : ObW} {ys : List (SL Msg)} {gL : List Xi} {k : Int} (hy : ys.map omo = gL.map Xi.mm) : Xb prog 218 #[.pointer (some ⟨r, 0, none⟩), .int .i64 k] [rOB r o, sl false o.ls.v ys, fzl ys]
  fun v l' => ∃ t : SV, v = .tuple #[t.v, .int .i64 (ZZ gL k)] ∧ l' = [Fz.fz (SL.mk t (Jz gL k) : Msg), rOB r o, sl false o.ls.v ys, fzl ys] := by
 intro F K hK
 simp only [ap]
 have hlx := xcy hy
 have hdm : (⟨⟨none, 0, 0⟩, []⟩ : Msg) = default := rfl
 refine S.I fun u => ?_
 by_cases h : inR gL k
 ·have ⟨h0, h1'⟩ := h
  have hms := xpb hy h
  cases hs : (ix gL k).shown
  ·have hlm : (ix ys k).d.length = 0 := by have := congrArg List.length hms; simpa [Xi.mm, hs] using this
   have hlm' : ((ix ys k).d.length : Int) = 0 := by omega
   have hD : Jz gL k = [] := by simp [Jz, ZZ, h, hs]
   ((try simp only [WKb, ↓reduceIte, Nat.reduceEqDiff, Nat.reduceAdd]) <;> (repeat' ((first
  | (refine G.tr ?_; first | refine S.a ?_ | refine S.i fun hix => ?_ | (refine S.g fun hb => ?_; (try simp only [hb])) | fail)
  | fail) <;> (try simp only [WKb, ↓reduceIte, Nat.reduceEqDiff, hlm']))))
   all_goals
    apply Tr.fin hK ⟨⟨none, 0, 0⟩, (by first | (simp only [WKe, ↓reduceIte, *, ZZ]; rfl)), rfl⟩
    ((try clear hK) <;> (try simp only [WKe, *]) <;> repeat (first | with_reducible exact Xd.done | refine S.e ?_ | fail))
  ·have hlm : (ix ys k).d.length = 1 := by have := congrArg List.length hms; simpa [Xi.mm, hs] using this
   have hD : Jz gL k = (ix (ix ys k).d 0).d := by
    rw [← Xp (f := SL.d) S.o S.o, hms]
    rw [Xi.mm, if_pos hs]
    simp only [Jz, ZZ, h, hs, if_true]
    rfl
   ((try simp only [WKb, ↓reduceIte, Nat.reduceEqDiff, Nat.reduceAdd]) <;> (repeat' ((first
  | (refine G.tr ?_; first | refine S.a ?_ | refine S.i fun hix => ?_ | (refine S.g fun hb => ?_; (try simp only [hb])) | fail)
  | fail) <;> (try simp only [WKb, ↓reduceIte, Nat.reduceEqDiff, hlm]))))
   all_goals
    apply Tr.fin hK ⟨(ix (ix ys k).d 0).s, (by first | (simp [*, ZZ]; done) | fail), rfl⟩
    ((try clear hK) <;> (try simp only [WKe, *]) <;> repeat (first | with_reducible exact Xd.done | refine S.e ?_ | fail))
 ·have h' := h
  unfold inR at h'
  have hD : Jz gL k = [] := by simp [Jz, ZZ, h]
  ((try simp only [WKb, ↓reduceIte, Nat.reduceEqDiff, Nat.reduceAdd]) <;> (repeat' ((first
  | (refine G.tr ?_; first | refine S.a ?_ | (refine S.s (fun hb => ?_) (fun hb => ?_) <;> ((try simp only [hb]) <;> (try (have hp := hb; simp only [WKs] at hp; (try have hq := Int.not_le.2 hp); (try have hq := Int.not_lt.2 hp))))))
  | fail) <;> (try simp only [WKb, ↓reduceIte, Nat.reduceEqDiff]))))
  all_goals
   apply Tr.fin hK ⟨⟨none, 0, 0⟩, (by first | (simp only [↓reduceIte, *, ZZ]; rfl)), rfl⟩
   ((try clear hK) <;> (try simp only [WKe, *]) <;> repeat (first | with_reducible exact Xd.done | refine S.e ?_ | fail))
theorem xay {a b : Int} : Xb prog 119 #[.int .i64 a, .int .i64 b] [] fun v l' => v = .int .i64 (if a < b then a else b) ∧ l' = [] := by
 intro F K hK
 simp only [List.nil_append]
 refine S.I fun u => ?_
 repeat' (first | refine S.x ?_ | refine S.y ?_ ?_ | intro hb | fail)
 all_goals
  refine Tr.fin hK ⟨S.V, rfl⟩ ?_
  exact S.E
theorem xky (n : Nat) : (if (n : Int) < 4 then (n : Int) else 4) = ((min 4 n : Nat) : Int) := by split <;> omega
theorem xpr (n : Int) : (if n < 8 then n else 8) = min n 8 := by split <;> omega
theorem xcB {u0 : Value} {c : xcR} [hd : DeA u0 c] {cs : List JO} {cp : List JC} {cl : List Int} : Xb prog 63 #[u0] [sl true c.sems.v cs, sl true c.pools.v cp, sl true c.slates.v cl]
  fun v l' => ∃ r s1 s2 s3 s4, v = .pointer (some ⟨r, 0, none⟩) ∧ l' = [rOB r ⟨c, s1, s2, s3, s4⟩, sl false (SV.v s1) ((cs.take 4).map JO.first), sl false (SV.v s2) (List.replicate (ZF c.flags) false),
   sl false (SV.v s3) (List.replicate (min 4 cp.length) (default : SL Msg)), fzl (List.replicate (min 4 cp.length) (default : SL Msg)), sl false (SV.v s4) (List.replicate (min 4 cl.length) (default : SL Msg)), fzl (List.replicate (min 4 cl.length) (default : SL Msg))] := by
 obtain rfl := hd.h
 intro F K hK
 simp only [ap]
 obtain ⟨c1, c2, c3, c4, c5, c6, c7, c8, c9, c10, c11⟩ := c
 refine S.I fun u => ?_
 ((try simp only [WKb, ↓reduceIte]) <;> (repeat' ((first
  | (refine G.tr ?_; first | refine S.a ?_ | refine S.n fun _ => ?_ | fail)
  | fail) <;> (try simp only [WKb, WKh, ↓reduceIte, Nat.reduceEqDiff]))))
 rename_i pb r
 refine Tr.loopE (α := Nat × SV) [4] [1, 2, 3] (fun x => [.int .i64 x.1]) (fun x => [rOB r ⟨⟨c1, c2, c3, c4, c5, c6, c7, c8, c9, c10, c11⟩, x.2, ⟨none, 0, 0⟩, ⟨none, 0, 0⟩, ⟨none, 0, 0⟩⟩, sl false x.2.v ((cs.take x.1).map JO.first)])
  (fun x => x.1 ≤ min 4 cs.length) (fun x => min 4 cs.length - x.1) (0, ⟨none, 0, 0⟩) (by (repeat (first | exact YK.nil | (apply YK.cons; focus ((first | ((repeat (first | exact Xm.here | apply Xm.next)); done) | exact Xm.nilS))) | fail)); done) rfl (by simp) fun x u hx => ?_
 obtain ⟨k, sa⟩ := x
 simp only at hx ⊢
 by_cases hk : k < min 4 cs.length
 ·have hw := Xo (k := k) S.o
  have htk : (cs.take (k + 1)).map JO.first = (cs.take k).map JO.first ++ [(ix cs (k : Int)).first] := by rw [Yz S.o, List.map_append]; rfl
  have hlk : ((cs.take k).map JO.first).length = k := by simp; omega
  ((try simp only [WKb, ↓reduceIte, Nat.reduceEqDiff]) <;> (repeat' ((first
  | (refine G.tr ?_; first | refine S.a ?_ | (refine G.call 119 ?_; refine S.c ?_ (h := xay)) | refine S.n fun _ => ?_ | refine S.i fun hix => ?_ | fail)
  | rintro _ _ ⟨rfl, rfl⟩
  | fail) <;> (try simp only [WKb, ↓reduceIte, Nat.reduceEqDiff, Nat.reduceAdd, xwH, xky, hw]))))
  all_goals (apply Tr.againE (k + 1, _); (focus (simp only [WKb, ↓reduceIte, Nat.reduceEqDiff])); (focus ((try simp only [WKb, ↓reduceIte]); (all_goals ((repeat (refine Jl (by first | rfl | ((try clear hK) <;> first | (simp [*, htk]; done) | (simp [*, htk]; omega) | (simp [*, htk] <;> (try split) <;> simp_all <;> omega))) ?_)); rfl)); done)); (focus (first | omega | fail)); (focus (first | omega | fail)); (focus (((try clear hK) <;> (try simp only [WKe, *]) <;> repeat (first | with_reducible exact Xd.done | refine S.e ?_ | refine Xd.drop (F := F) ?_ | fail)))))
 ·have hkk : k = min 4 cs.length := by omega
  have ht4 : cs.take k = cs.take 4 := by subst hkk; exact (List.take_eq_take_min).symm
  ((try simp only [WKb, ↓reduceIte, Nat.reduceEqDiff]) <;> (repeat' ((first
  | (refine G.tr ?_; first | refine S.a ?_ | (refine G.call 119 ?_; refine S.c ?_ (h := xay)) | fail)
  | rintro _ _ ⟨rfl, rfl⟩
  | fail) <;> (try simp only [WKb, ↓reduceIte, Nat.reduceEqDiff, xky]))))
  refine Tr.loopE (α := Nat × SV) [5] [1, 2, 3] (fun x => [.int .i64 x.1]) (fun x => [rOB r ⟨⟨c1, c2, c3, c4, c5, c6, c7, c8, c9, c10, c11⟩, sa, x.2, ⟨none, 0, 0⟩, ⟨none, 0, 0⟩⟩, sl false x.2.v (List.replicate x.1 false)])
   (fun x => x.1 ≤ ZF c5) (fun x => ZF c5 - x.1) (0, ⟨none, 0, 0⟩) (by (repeat (first | exact YK.nil | (apply YK.cons; focus ((first | ((repeat (first | with_reducible exact Xm.here | with_reducible apply Xm.next)); done) | exact Xm.nilS))) | fail)); done) rfl (by simp) fun y u2 hy => ?_
  obtain ⟨j, sb⟩ := y
  simp only at hy ⊢
  have hn8 := xcf c5
  have hnf : (ZF c5 : Int) = max 0 (min c5 8) := by unfold ZF; omega
  by_cases hj : j < ZF c5
  ·have hw := Xo (k := j) S.o
   have hrp : List.replicate (j + 1) false = List.replicate j false ++ [false] := List.replicate_succ'
   ((try simp only [WKb, ↓reduceIte, Nat.reduceEqDiff]) <;> (repeat' ((first
  | (refine G.tr ?_; first | refine S.a ?_ | (refine G.call 119 ?_; refine S.c ?_ (h := xay)) | refine S.n fun _ => ?_ | fail)
  | rintro _ _ ⟨rfl, rfl⟩
  | fail) <;> (try simp only [WKb, ↓reduceIte, Nat.reduceEqDiff, Nat.reduceAdd, xpr, hw]))))
   all_goals (apply Tr.againE (j + 1, _); (focus (simp only [WKb, ↓reduceIte, Nat.reduceEqDiff])); (focus ((try simp only [WKb, ↓reduceIte]); (all_goals ((repeat (refine Jl (by first | rfl | ((try clear hK) <;> first | (simp [*, hrp]; done) | (simp [*, hrp]; omega) | (simp [*, hrp] <;> (try split) <;> simp_all <;> omega))) ?_)); rfl)); done)); (focus (first | omega | fail)); (focus (first | omega | fail)); (focus (((try clear hK) <;> (try simp only [WKe, *]) <;> repeat (first | with_reducible exact Xd.done | refine S.e ?_ | refine Xd.drop (F := F) ?_ | fail)))))
  ·have hjj : j = ZF c5 := by omega
   have hd0 : (((min 4 cp.length : Nat) : Int)).toNat = min 4 cp.length := rfl
   ((try simp only [WKb, ↓reduceIte, Nat.reduceEqDiff]) <;> (repeat' ((first
  | (refine G.tr ?_; first | refine S.a ?_ | (refine G.call 119 ?_; refine S.c ?_ (h := xay)) | refine S.n fun _ => ?_ | fail)
  | rintro _ _ ⟨rfl, rfl⟩
  | fail) <;> (try simp only [WKb, ↓reduceIte, Nat.reduceEqDiff, Nat.reduceAdd, xpr, xky]))))
   all_goals
    clear hkk hk hx
    apply Tr.fin hK ⟨_, _, _, _, _, rfl, rfl⟩
    ((try clear hK) <;> (try simp only [WKe, *]) <;> repeat (first | with_reducible exact Xd.done | refine S.e ?_ | refine Xd.drop (F := F) ?_ | fail))
theorem xke {c : xcR} {cs : List JO} {cp : List JC} {cl : List Int} : Xb prog 63 #[.agg (En.enc c).toArray] [sl true c.sems.v cs, sl true c.pools.v cp, sl true c.slates.v cl]
  fun v l' => ∃ r s1 s2 s3 s4, v = .pointer (some ⟨r, 0, none⟩) ∧ l' = [rOB r ⟨c, s1, s2, s3, s4⟩, sl false (SV.v s1) ((cs.take 4).map JO.first), sl false (SV.v s2) (List.replicate (ZF c.flags) false),
   sl false (SV.v s3) (List.replicate (min 4 cp.length) (default : SL Msg)), fzl (List.replicate (min 4 cp.length) (default : SL Msg)), sl false (SV.v s4) (List.replicate (min 4 cl.length) (default : SL Msg)), fzl (List.replicate (min 4 cl.length) (default : SL Msg))] := xcB (hd := ⟨rfl⟩)
theorem xjd {r : Nat} {o : ObW} {gS : List XL} {gF : List Xr} {xs ys : List (SL Msg)} {cs : List JO} {cp : List JC} {cl : List Int} : Xb prog 196 #[.pointer (some ⟨r, 0, none⟩)] [rOB r o, sl false o.ss.v (gS.map XL.count), sl false o.fs.v (gF.map Xr.up), sl false o.ps.v xs, fzl xs, sl false o.ls.v ys, fzl ys, sl true o.c.sems.v cs, sl true o.c.pools.v cp, sl true o.c.slates.v cl]
  fun v l' => ∃ s1 s2 s3 s4, v = .tuple #[] ∧ l' = [rOB r ⟨o.c, s1, s2, s3, s4⟩, sl false (SV.v s1) ((cs.take 4).map JO.first), sl false (SV.v s2) (List.replicate (ZF o.c.flags) false),
   sl false (SV.v s3) (List.replicate (min 4 cp.length) (default : SL Msg)), fzl (List.replicate (min 4 cp.length) (default : SL Msg)), sl false (SV.v s4) (List.replicate (min 4 cl.length) (default : SL Msg)), fzl (List.replicate (min 4 cl.length) (default : SL Msg))] := by
 intro F K hK
 obtain ⟨⟨c1, c2, c3, c4, c5, c6, c7, c8, c9, c10, c11⟩, s1, s2, s3, s4⟩ := o
 simp only [ap]
 refine S.I fun u => ?_
 repeat' (first | (refine G.call 63 ?_; refine S.c ?_ (h := xke (c := ⟨c1, c2, c3, c4, c5, c6, c7, c8, c9, c10, c11⟩))) | refine S.x ?_ | (refine G.call 238 ?_; refine S.c ?_ (h := ZT)) | rintro _ _ ⟨rfl, rfl⟩ | rintro _ _ ⟨_, _, _, _, _, rfl, rfl⟩ | fail)
 all_goals
  apply Tr.fin hK ⟨_, _, _, _, rfl, rfl⟩
  exact S.E
