import Derived.Test.YtacmaamllpiloaaGreatZ10
namespace Go.Proofs.YtacmaamllpiloaaGreat
open Go Go.Wk Tryz
set_option maxHeartbeats 3200000
set_option maxRecDepth 100000
def XH.conf (m : XH) : xaL := ⟨m.base, m.size, m.w⟩
abbrev rmB (r : Nat) (s1 s2 : SV) : Xc := blk r (.cells #[s1.v, s2.v] 135 (0, 0))
abbrev rmL (r : Nat) (s1 s2 : SV) (ms : List XH) (xs : List Msg) : List Xc := [rmB r s1 s2, sl false s1.v (ms.map XH.conf), sl false s2.v xs, fzl xs]
instance xwB : ElT 23 xaL := ⟨⟩
def frK (ms : List XH) (a n : Int) (wr : Bool) : Int := match fI ms a n wr with
 | some k => (k : Int)
 | none => -1
def frF (ms : List XH) (a n : Int) (wr : Bool) : Int := match fI ms a n wr with
 | some k => a - (ix ms (k : Int)).base
 | none => 0
theorem xcs {ms : List XH} {xs : List Msg} (hx : xs.map SL.d = ms.map XH.d) : xs.length = ms.length := by simpa using congrArg List.length hx
theorem xsr {ms : List XH} {xs : List Msg} {k : Int} (hx : xs.map SL.d = ms.map XH.d) (h0 : 0 ≤ k) (h1 : k < ms.length) : (ix xs k).d = (ix ms k).d := by
 have hl := xcs hx
 rw [← Xp (f := SL.d) h0 S.o, hx, Xp (f := XH.d) h0 h1]
theorem xrt {m : XH} {a n : Int} {wr : Bool} (h : 0 ≤ n ∧ m.base ≤ a ∧ a - m.base ≤ m.d.length ∧ n ≤ (m.d.length : Int) - (a - m.base)) (hw : (m.w || !wr) = true) : Jo m a n wr = true := by
 unfold Jo
 simp only [Bool.and_eq_true, decide_eq_true_eq]
 exact ⟨h, hw⟩
theorem xuS {m : XH} {a n : Int} {wr : Bool} (h : Jo m a n wr = true) : (m.w || !wr) = true := by
 unfold Jo at h
 simp only [Bool.and_eq_true, decide_eq_true_eq] at h
 exact h.2
theorem xkT {a b k : Int} (ha : a ≤ 9223372036854775807) (ha2 : -9223372036854775808 ≤ a) (hb : 0 ≤ b ∧ b ≤ 1048576) (h : b ≤ a) (hk : 0 ≤ k) (hk2 : k ≤ 1000000) : decide (IntKind.u64.wrap (IntKind.u64.wrap a - IntKind.u64.wrap b) = IntKind.u64.wrap k) = decide (a - b = k) := by
 rw [IntKind.wrap_u64, IntKind.wrap_u64, IntKind.wrap_u64, IntKind.wrap_u64]
 rw [Bool.eq_iff_iff]
 simp only [decide_eq_true_eq]
 omega
section
attribute [local irreducible] BrK Xq Xt Xv XI FnK XZ Xw XC XV opX opK Yq Yk eqR Yj Yo Ys WL WD W X3 XO Tr drewK Ya X4 Yw Yv X1 YB mp blk rob sl sep ex fact old
section
attribute [local irreducible] Jo fI
theorem W9 {r : Nat} {s1 s2 : SV} {ms : List XH} {xs : List Msg} {a n : Int} {wr : Bool} (hx : xs.map SL.d = ms.map XH.d) (hr : ∀ m ∈ ms, okR m) (hln : ms.length ≤ 1000000) (ha : a ≤ 9223372036854775807) (ha2 : -9223372036854775808 ≤ a) :
  Xb prog 239 #[.pointer (some ⟨r, 0, none⟩), .int .i64 a, .int .i64 n, .bool wr] (rmL r s1 s2 ms xs)
  fun v l' => v = .tuple #[.int .i64 (frK ms a n wr), .int .i64 (frF ms a n wr)] ∧ l' = rmL r s1 s2 ms xs := by
 intro F K hK
 simp only [ap] at hK ⊢
 have hlx := xcs hx
 have hlc : (ms.map XH.conf).length = ms.length := List.length_map _
 refine S.I fun u => ?_
 repeat' (first | refine S.x ?_ | fail)
 refine Tr.loopE (α := Nat) [8, 9, 10] [0, 1, 2, 3] (fun k => [.int .i64 0, .int .i64 0, .int .i64 k]) (fun _ => rmL r s1 s2 ms xs) (fun k => k ≤ ms.length ∧ ∀ j : Nat, j < k → Jo (ix ms (j : Int)) a n wr = false) (fun k => ms.length - k) 0 S.T rfl ⟨Nat.zero_le _, fun j hj => by omega⟩ fun k u hk => ?_
 obtain ⟨hk, hno⟩ := hk
 simp only [ap]
 by_cases hin : k < ms.length
 ·have hw := Xo (k := k) S.o
  have hc := Xp (f := XH.conf) (xs := ms) (k := (k : Int)) S.o S.o
  have hd := xsr hx (k := (k : Int)) S.o S.o
  obtain ⟨hb1, hb2, hb3⟩ := hr _ (VK hin)
  repeat' (first | refine S.x ?_ | fail)
  refine Tr.loopE (α := Nat) [8, 9, 11] [0, 1, 2, 3, 10] (fun f => [.int .i64 0, .int .i64 0, .int .i64 f]) (fun _ => rmL r s1 s2 ms xs) (fun f => f ≤ (ix ms (k : Int)).d.length + 1 ∧ (Jo (ix ms (k : Int)) a n wr = true → (f : Int) ≤ a - (ix ms (k : Int)).base)) (fun f => (ix ms (k : Int)).d.length + 1 - f) 0 S.T rfl ⟨Nat.zero_le _, fun hj => by have := Jg hj; omega⟩ fun f u hf => ?_
  obtain ⟨hf, hno2⟩ := hf
  simp only [ap]
  by_cases hfn : f ≤ (ix ms (k : Int)).d.length
  ·have hw2 := Xo (k := f) S.o
   have hw3 : IntKind.i64.wrap (((ix ms (k : Int)).d.length : Int) - f) = ((ix ms (k : Int)).d.length : Int) - f := Ye S.o S.o
   by_cases hit : Jo (ix ms (k : Int)) a n wr = true ∧ (f : Int) = a - (ix ms (k : Int)).base
   ·obtain ⟨hit, hfa⟩ := hit
    obtain ⟨p0, p1, p2, p3⟩ := Jg hit
    have hwr := xuS hit
    have hu := xkT (k := (f : Int)) ha ha2 ⟨hb1, hb2⟩ p1 S.o S.o
    rw [show decide (a - (ix ms (k : Int)).base = (f : Int)) = true by simp; omega] at hu
    have c1 : decide ((ix ms (k : Int)).base ≤ a) = true := by simpa using p1
    have c3 : decide (0 ≤ n) = true := by simpa using p0
    have c4 : decide (n ≤ ((ix ms (k : Int)).d.length : Int) - f) = true := by simp; omega
    have e1 : fI ms a n wr = some k := xpP hin hit hno
    have e2 : frK ms a n wr = (k : Int) := by unfold frK; rw [e1]
    have e3 : frF ms a n wr = (f : Int) := by unfold frF; rw [e1]; exact hfa.symm
    clear hno hno2 p0 p1 p2 p3
    cases hmw : (ix ms (k : Int)).w <;> cases wr
    all_goals
     rw [hmw] at hwr
     first
     | (exfalso; revert hwr; decide)
     | skip
    all_goals
     have hX := I9 hc hd @XH.conf.eq_def hmw hu @c1 @c3 @c4 hw3; repeat' (first | refine S.x ?_ | intro hb | fail)
     all_goals exact S.L
   ·have hno3 : Jo (ix ms (k : Int)) a n wr = true → ((f + 1 : Nat) : Int) ≤ a - (ix ms (k : Int)).base := fun h => by
     have h1 := hno2 h
     by_cases e : (f : Int) = a - (ix ms (k : Int)).base
     ·exact absurd ⟨h, e⟩ hit
     ·omega
    by_cases p1 : (ix ms (k : Int)).base ≤ a
    ·have hu := xkT (k := (f : Int)) ha ha2 ⟨hb1, hb2⟩ p1 S.o S.o
     have c1 : decide ((ix ms (k : Int)).base ≤ a) = true := by simpa using p1
     by_cases e : a - (ix ms (k : Int)).base = (f : Int)
     ·rw [show decide (a - (ix ms (k : Int)).base = (f : Int)) = true by simpa using e] at hu
      have hbf : ¬ (0 ≤ n ∧ n ≤ ((ix ms (k : Int)).d.length : Int) - f ∧ ((ix ms (k : Int)).w || !wr) = true) := fun h => hit ⟨xrt ⟨h.1, p1, by omega, by omega⟩ h.2.2, e.symm⟩
      clear hno2
      by_cases p0 : 0 ≤ n
      ·have c3 : decide (0 ≤ n) = true := by simpa using p0
       by_cases p3 : n ≤ ((ix ms (k : Int)).d.length : Int) - f
       ·have c4 : decide (n ≤ ((ix ms (k : Int)).d.length : Int) - f) = true := by simpa using p3
        have hwr : (ix ms (k : Int)).w = false ∧ wr = true := by
         cases h1 : (ix ms (k : Int)).w <;> cases h2 : wr <;> first | exact ⟨rfl, rfl⟩ | exact absurd ⟨p0, p3, by rw [h1, h2]; rfl⟩ hbf
        obtain ⟨hmw, rfl⟩ := hwr
        clear hbf hit
        have hX := I9 hw2 hc hd @XH.conf.eq_def hmw hu @c1 @c3 (And.intro @c4 hw3); repeat' (first | refine S.x ?_ | intro hb | fail)
        all_goals exact S.R (f + 1)
       ·have c4 : decide (n ≤ ((ix ms (k : Int)).d.length : Int) - f) = false := by simpa using p3
        clear hbf hit
        have hX := I9 hw2 hc hd @XH.conf.eq_def hu @c1 @c3 @c4 hw3; repeat' (first | refine S.x ?_ | intro hb | fail)
        all_goals exact S.R (f + 1)
      ·have c3 : decide (0 ≤ n) = false := by simpa using p0
       clear hbf hit
       have hX := I7 hw2 hc hd @XH.conf.eq_def hu @c1 @c3; repeat' (first | refine S.x ?_ | intro hb | fail)
       all_goals exact S.R (f + 1)
     ·rw [show decide (a - (ix ms (k : Int)).base = (f : Int)) = false by simpa using e] at hu
      clear hno2 hit
      have hX := I6 hw2 hc hd @XH.conf.eq_def hu @c1; repeat' (first | refine S.x ?_ | intro hb | fail)
      all_goals exact S.R (f + 1)
    ·have c1 : decide ((ix ms (k : Int)).base ≤ a) = false := by simpa using p1
     clear hno2 hit
     have hX := I5 hw2 hc hd @XH.conf.eq_def @c1; repeat' (first | refine S.x ?_ | intro hb | fail)
     all_goals exact S.R (f + 1)
  ·have hfe : f = (ix ms (k : Int)).d.length + 1 := by omega
   have hfalse : Jo (ix ms (k : Int)) a n wr = false := by
    cases h : Jo (ix ms (k : Int)) a n wr
    ·rfl
    ·have := hno2 h
     have := Jg h
     omega
   have hno3 : ∀ j : Nat, j < k + 1 → Jo (ix ms (j : Int)) a n wr = false := fun j hj => by
    by_cases e : j = k
    ·subst e; exact hfalse
    ·exact hno j S.o
   clear hno hno2
   have hX := And.intro hw hd; repeat' (first | refine S.x ?_ | intro hb | fail)
   all_goals exact S.R (k + 1)
 ·have hke : k = ms.length := by omega
  subst hke
  have e1 : fI ms a n wr = none := xlk hno
  have e2 : frK ms a n wr = -1 := by unfold frK; rw [e1]
  have e3 : frF ms a n wr = 0 := by unfold frF; rw [e1]
  clear hno
  repeat' (first | refine S.x ?_ | fail)
  all_goals exact S.L
end
section
theorem xl3 {ms : List XH} {a n : Int} {wr : Bool} (h : fI ms a n wr = none) : frK ms a n wr = -1 ∧ frF ms a n wr = 0 := by unfold frK frF; rw [h]; exact ⟨rfl, rfl⟩
theorem xkV {ms : List XH} {a n : Int} {wr : Bool} {k : Nat} (h : fI ms a n wr = some k) : frK ms a n wr = (k : Int) ∧ frF ms a n wr = a - (ix ms (k : Int)).base := by unfold frK frF; rw [h]; exact ⟨rfl, rfl⟩
theorem xgs {ms : List XH} {a n : Int} (h : fI ms a n false = none) : ldO ms a n = false ∧ ldB ms a n = [] := by unfold ldO ldB; rw [h]; exact ⟨rfl, rfl⟩
theorem xgo {ms : List XH} {a n : Int} {k : Nat} (h : fI ms a n false = some k) : ldO ms a n = true ∧ ldB ms a n = ((ix ms (k : Int)).d.take ((a - (ix ms (k : Int)).base).toNat + n.toNat)).drop (a - (ix ms (k : Int)).base).toNat := by unfold ldO ldB; rw [h]; exact ⟨rfl, rfl⟩
theorem xlx {ms : List XH} {a : Int} {b : List UInt8} (h : fI ms a b.length true = none) : stO ms a b.length = false ∧ stB ms a b = ms := by unfold stO stB; rw [h]; exact ⟨rfl, rfl⟩
theorem xmu {ms : List XH} {a : Int} {b : List UInt8} {k : Nat} (h : fI ms a b.length true = some k) : stO ms a b.length = true ∧ stB ms a b = ms.set k (xjw (ix ms (k : Int)) a b) := by unfold stO stB; rw [h]; exact ⟨rfl, rfl⟩
theorem xrg {ms : List XH} {xs : List Msg} {k : Nat} {m : XH} {s : SV} (hx : xs.map SL.d = ms.map XH.d) : (xs.set k ⟨s, m.d⟩).map SL.d = (ms.set k m).map XH.d := by
 rw [List.map_set, List.map_set, hx]
theorem xuu {ms : List XH} {k : Nat} {m : XH} (hk : k < ms.length) (h : m.conf = (ix ms (k : Int)).conf) : (ms.set k m).map XH.conf = ms.map XH.conf := by
 have := QI (f := XH.conf) (xs := ms) (k := (k : Int)) (y := m) S.o S.o h
 simpa using this
theorem xsh {m : XH} {a : Int} {b : List UInt8} {wr : Bool} (h : okR m) (hb : Jo m a b.length wr = true) : okR (xjw m a b) := by
 obtain ⟨h1, h2, h3⟩ := h
 obtain ⟨p0, p1, p2, p3⟩ := Jg hb
 refine ⟨h1, h2, ?_⟩
 simp only [xjw, List.length_append, List.length_take, List.length_drop] at *
 omega
theorem xqr {ms : List XH} {a : Int} {b : List UInt8} (h : ∀ m ∈ ms, okR m) : ∀ m ∈ stB ms a b, okR m := by
 cases hf : fI ms a b.length true with
 | none => rw [(xlx hf).2]; exact h
 | some k =>
  obtain ⟨hk, hb⟩ := Qp hf
  rw [(xmu hf).2]
  intro m hm
  rcases List.mem_or_eq_of_mem_set hm with h' | rfl
  ·exact h m h'
  ·exact xsh (h _ (VK hk)) hb
theorem xlL {ms : List XH} {a : Int} {b : List UInt8} : (stB ms a b).length = ms.length := by
 unfold stB
 split <;> simp
attribute [local irreducible] Jo fI frK frF ldO ldB stO stB
theorem xcI {r : Nat} {s1 s2 : SV} {ms : List XH} {xs : List Msg} {a n : Int} (hx : xs.map SL.d = ms.map XH.d) (hr : ∀ m ∈ ms, okR m) (hln : ms.length ≤ 1000000) (ha : a ≤ 9223372036854775807) (ha2 : -9223372036854775808 ≤ a) :
  Xb prog 240 #[.pointer (some ⟨r, 0, none⟩), .int .i64 a, .int .i64 n] (rmL r s1 s2 ms xs)
  fun v l' => ∃ s' : SV, v = .tuple #[s'.v, .bool (ldO ms a n)] ∧ l' = rmL r s1 s2 ms xs ++ [sl true s'.v (ldB ms a n)] := by
 intro F K hK
 simp only [ap] at hK ⊢
 have hlx := xcs hx
 refine S.I fun u => ?_
 cases hf : fI ms a n false with
 | none =>
  obtain ⟨f1, f2⟩ := xl3 hf
  obtain ⟨e1, e2⟩ := xgs hf
  rw [e1, e2] at hK
  have hX := And.intro @f1 @f2; repeat' (first | refine S.x ?_ | (refine G.call 239 ?_; refine S.c ?_ (h := W9 ‹_› ‹_› ‹_› ‹_› ‹_›)) | rintro _ _ ⟨rfl, rfl⟩ | fail)
  all_goals exact Tr.fin hK ⟨⟨none, 0, 0⟩, rfl, rfl⟩ S.E
 | some k =>
  obtain ⟨f1, f2⟩ := xkV hf
  obtain ⟨e1, e2⟩ := xgo hf
  rw [e1, e2] at hK
  obtain ⟨hk, hb⟩ := Qp hf
  obtain ⟨p0, p1, p2, p3⟩ := Jg hb
  obtain ⟨hb1, hb2, hb3⟩ := hr _ (VK hk)
  have hd := xsr hx (k := (k : Int)) S.o S.o
  have hdl : (ix xs (k : Int)).d.length = (ix ms (k : Int)).d.length := by rw [hd]
  have hw2 : IntKind.i64.wrap (a - (ix ms (k : Int)).base + n) = a - (ix ms (k : Int)).base + n := Ye S.o S.o
  have hn : (a - (ix ms (k : Int)).base + n).toNat = (a - (ix ms (k : Int)).base).toNat + n.toNat := by omega
  have hX := I5 @f1 @f2 hw2 hn hd; repeat' (first | refine S.x ?_ | (refine G.call 239 ?_; refine S.c ?_ (h := W9 ‹_› ‹_› ‹_› ‹_› ‹_›)) | rintro _ _ ⟨rfl, rfl⟩ | intro hb | fail)
  all_goals
   refine Tr.freezeAt (v := hb.v) S.K ?_
   exact Tr.fin hK ⟨hb, rfl, rfl⟩ S.E
theorem xei {r : Nat} {s1 s2 s3 : SV} {ms : List XH} {xs : List Msg} {a : Int} {b : List UInt8} (hx : xs.map SL.d = ms.map XH.d) (hr : ∀ m ∈ ms, okR m) (hln : ms.length ≤ 1000000) (ha : a ≤ 9223372036854775807) (ha2 : -9223372036854775808 ≤ a) :
  Xb prog 200 #[.pointer (some ⟨r, 0, none⟩), .int .i64 a, s3.v] (sl true s3.v b :: rmL r s1 s2 ms xs)
  fun v l' => ∃ xs2 : List Msg, xs2.map SL.d = (stB ms a b).map XH.d ∧ v = .bool (stO ms a b.length) ∧ l' = rmL r s1 s2 (stB ms a b) xs2 := by
 intro F K hK
 simp only [ap] at hK ⊢
 have hlx := xcs hx
 refine Tr.bound (ro := true) (v := s3.v) (xs := b) (by (repeat (first | exact Has.here | fail)); done) fun hbd => ?_
 refine S.I fun u => ?_
 cases hf : fI ms a b.length true with
 | none =>
  obtain ⟨f1, f2⟩ := xl3 hf
  obtain ⟨e1, e2⟩ := xlx hf
  rw [e1, e2] at hK
  have hX := And.intro @f1 @f2; repeat' (first | refine S.x ?_ | (refine G.call 239 ?_; refine S.c ?_ (h := W9 ‹_› ‹_› ‹_› ‹_› ‹_›)) | rintro _ _ ⟨rfl, rfl⟩ | fail)
  all_goals exact Tr.fin hK ⟨_, hx, rfl, rfl⟩ S.E
 | some k =>
  obtain ⟨f1, f2⟩ := xkV hf
  obtain ⟨e1, e2⟩ := xmu hf
  obtain ⟨hk, hb⟩ := Qp hf
  obtain ⟨p0, p1, p2, p3⟩ := Jg hb
  have hcf := xuu (m := xjw (ix ms (k : Int)) a b) hk rfl
  simp only [e1, e2, rmL, hcf] at hK
  obtain ⟨hb1, hb2, hb3⟩ := hr _ (VK hk)
  have hd := xsr hx (k := (k : Int)) S.o S.o
  have hdl : (ix xs (k : Int)).d.length = (ix ms (k : Int)).d.length := by rw [hd]
  have hw2 : IntKind.i64.wrap (a - (ix ms (k : Int)).base + b.length) = a - (ix ms (k : Int)).base + b.length := Ye S.o S.o
  have hn : (a - (ix ms (k : Int)).base + b.length).toNat = (a - (ix ms (k : Int)).base).toNat + b.length := by omega
  have hput : (ix ms (k : Int)).d.take (a - (ix ms (k : Int)).base).toNat ++ b ++ (ix ms (k : Int)).d.drop ((a - (ix ms (k : Int)).base).toNat + b.length) = (xjw (ix ms (k : Int)) a b).d := rfl
  have hX := I5 @f1 @f2 hw2 hn hd; repeat' (first | refine S.x ?_ | (refine G.call 239 ?_; refine S.c ?_ (h := W9 ‹_› ‹_› ‹_› ‹_› ‹_›)) | rintro _ _ ⟨rfl, rfl⟩ | intro hb | fail)
  refine Tr.freezeAt (xs := (ix ms (k : Int)).d.take (a - (ix ms (k : Int)).base).toNat ++ b ++ (ix ms (k : Int)).d.drop ((a - (ix ms (k : Int)).base).toNat + b.length)) S.K ?_
  rw [hput]
  have hX := hw2; repeat' (first | refine S.x ?_ | fail)
  all_goals
   rename_i sv
   exact Tr.fin hK ⟨xs.set k ⟨sv, _⟩, xrg hx, rfl, rfl⟩ S.E
end
section
theorem xkX {ms : List XH} {a n : Int} (h : ldO ms a n = true) : ((ldB ms a n).length : Int) = n := by
 cases hf : fI ms a n false with
 | none => rw [(xgs hf).1] at h; cases h
 | some k =>
  obtain ⟨hk, hb⟩ := Qp hf
  obtain ⟨p0, p1, p2, p3⟩ := Jg hb
  rw [(xgo hf).2, List.length_drop, List.length_take]
  omega
theorem xlu {ms : List XH} {a n : Int} (h : ldO ms a n = false) : ldB ms a n = [] := by
 cases hf : fI ms a n false with
 | none => exact (xgs hf).2
 | some k => rw [(xgo hf).1] at h; cases h
theorem xwD {ms : List XH} {a : Int} : (ldB ms a 4).length ≤ 4 := by
 cases h : ldO ms a 4
 ·rw [xlu h]; decide
 ·have := xkX h; omega
theorem xbt {n : Int} {k : Nat} (hk : k = 0 ∨ k = 1 ∨ k = 2 ∨ k = 3) : IntKind.u8.wrap (Int.tmod ((IntKind.u64.wrap n).tdiv (2 ^ (8 * k))) 256) = ((Jp n k).toNat : Int) := by
 have h1 : (Jp n k).toNat = ((n / 2 ^ (8 * k)) % 256).toNat % 256 := UInt8.toNat_ofNat
 rw [h1, IntKind.wrap_u8, IntKind.wrap_u64]
 have h0 : 0 ≤ n % 18446744073709551616 := Int.emod_nonneg _ (by decide)
 rcases hk with rfl | rfl | rfl | rfl
 all_goals
  simp only [Nat.mul_zero, Nat.mul_one, Nat.reduceMul, Int.reducePow]
  rw [Int.tdiv_eq_ediv_of_nonneg h0, Int.tmod_eq_emod_of_nonneg (Int.ediv_nonneg h0 (by decide))]
  omega
theorem xwz {x : Int} (h : x < 0) : csz x = 0 := by unfold csz; split <;> split at * <;> omega
theorem xru {x : Int} (h : 256 < x) : csz x = 256 := by unfold csz; split <;> split at * <;> omega
theorem xwL {x : Int} (h : 0 ≤ x) (h2 : x ≤ 256) : csz x = x := by unfold csz; split <;> split at * <;> omega
theorem xkv {c : xaL} {z : Int} (h : csz c.size = z) : List.replicate z.toNat default = (Wo c).d := by unfold Wo; rw [h]
theorem xgi {n c : Int} (hc : c = 256 ∨ c = 65536 ∨ c = 16777216) : IntKind.u64.wrap ((IntKind.u64.wrap n).tdiv c) = (IntKind.u64.wrap n).tdiv c := by
 rw [IntKind.wrap_u64, IntKind.wrap_u64]
 have h0 : 0 ≤ n % 18446744073709551616 := Int.emod_nonneg _ (by decide)
 rw [Int.tdiv_eq_ediv_of_nonneg h0]
 rcases hc with rfl | rfl | rfl <;> omega
attribute [local irreducible] Jo fI frK frF ldO ldB stO stB
theorem xm3 {r : Nat} {s1 s2 : SV} {ms : List XH} {xs : List Msg} {a : Int} (hx : xs.map SL.d = ms.map XH.d) (hr : ∀ m ∈ ms, okR m) (hln : ms.length ≤ 1000000) (ha : a ≤ 9223372036854775807) (ha2 : -9223372036854775808 ≤ a) :
  Xb prog 220 #[.pointer (some ⟨r, 0, none⟩), .int .i64 a] (rmL r s1 s2 ms xs)
  fun v l' => v = .tuple #[.int .i64 (wdB ms a), .bool (ldO ms a 4)] ∧ l' = rmL r s1 s2 ms xs := by
 intro F K hK
 simp only [ap] at hK ⊢
 unfold wdB at hK
 refine S.I fun u => ?_
 cases ho : ldO ms a 4 with
 | false =>
  have e := xlu ho
  rw [ho, e] at hK
  have hX := And.intro @xmD.eq_def ho; repeat' (first | refine S.x ?_ | (refine G.call 240 ?_; refine S.c ?_ (h := xcI ‹_› ‹_› ‹_› ‹_› ‹_›)) | rintro _ _ ⟨_, rfl, rfl⟩ | fail)
  all_goals exact Tr.fin hK ⟨rfl, rfl⟩ S.E
 | true =>
  rw [ho] at hK
  have hX := And.intro @xmD.eq_def ho; repeat' (first | refine S.x ?_ | (refine G.call 240 ?_; refine S.c ?_ (h := xcI ‹_› ‹_› ‹_› ‹_› ‹_›)) | rintro _ _ ⟨_, rfl, rfl⟩ | fail)
  have e := xkX ho
  generalize ldB ms a 4 = bs at *
  have e' : bs.length = 4 := by omega
  match bs, e' with
  | [b0, b1, b2, b3], _ =>
   have c0 : ix [b0, b1, b2, b3] (0 : Int) = b0 := rfl
   have c1 : ix [b0, b1, b2, b3] (1 : Int) = b1 := rfl
   have c2 : ix [b0, b1, b2, b3] (2 : Int) = b2 := rfl
   have c3 : ix [b0, b1, b2, b3] (3 : Int) = b3 := rfl
   have l0 := b0.toNat_lt
   have l1 := b1.toNat_lt
   have l2 := b2.toNat_lt
   have l3 := b3.toNat_lt
   have w : ∀ b : UInt8, IntKind.i64.wrap (b.toNat : Int) = b.toNat := fun b => Ye S.o (by have := b.toNat_lt; omega)
   have hlb : ([b0, b1, b2, b3] : List UInt8).length = 4 := rfl
   clear e
   have w1 : IntKind.i64.wrap (256 * (b1.toNat : Int)) = 256 * (b1.toNat : Int) := Ye S.o S.o
   have w2 : IntKind.i64.wrap (65536 * (b2.toNat : Int)) = 65536 * (b2.toNat : Int) := Ye S.o S.o
   have w3 : IntKind.i64.wrap (16777216 * (b3.toNat : Int)) = 16777216 * (b3.toNat : Int) := Ye S.o S.o
   have w4 : IntKind.i64.wrap ((b0.toNat : Int) + 256 * (b1.toNat : Int)) = (b0.toNat : Int) + 256 * (b1.toNat : Int) := Ye S.o S.o
   have w5 : IntKind.i64.wrap ((b0.toNat : Int) + 256 * (b1.toNat : Int) + 65536 * (b2.toNat : Int)) = (b0.toNat : Int) + 256 * (b1.toNat : Int) + 65536 * (b2.toNat : Int) := Ye S.o S.o
   have w6 : IntKind.i64.wrap ((b0.toNat : Int) + 256 * (b1.toNat : Int) + 65536 * (b2.toNat : Int) + 16777216 * (b3.toNat : Int)) = ((wN [b0, b1, b2, b3] : Nat) : Int) := by rw [Ye S.o S.o]; simp only [wN]; omega
   have hX := I9 @xmD.eq_def ho @c0 @c1 @c2 @c3 @w @w1 (I5 @w2 @w3 @w4 @w5 @w6); repeat' (first | refine S.x ?_ | intro hb | fail)
   all_goals exact Tr.fin hK ⟨rfl, rfl⟩ S.E
theorem xpa {r : Nat} {s1 s2 : SV} {ms : List XH} {xs : List Msg} {a n : Int} (hx : xs.map SL.d = ms.map XH.d) (hr : ∀ m ∈ ms, okR m) (hln : ms.length ≤ 1000000) (ha : a ≤ 9223372036854775807) (ha2 : -9223372036854775808 ≤ a) :
  Xb prog 222 #[.pointer (some ⟨r, 0, none⟩), .int .i64 a, .int .i64 n] (rmL r s1 s2 ms xs)
  fun v l' => ∃ xs2 : List Msg, xs2.map SL.d = (stB ms a (b4 n)).map XH.d ∧ v = .bool (stO ms a 4) ∧ l' = rmL r s1 s2 (stB ms a (b4 n)) xs2 := by
 intro F K hK
 simp only [ap] at hK ⊢
 have q0 := xbt (n := n) (k := 0) S.o
 have q1 := xbt (n := n) (k := 1) S.o
 have q2 := xbt (n := n) (k := 2) S.o
 have q3 := xbt (n := n) (k := 3) S.o
 simp only [Nat.mul_zero, Nat.mul_one, Nat.reduceMul, Int.reducePow, Int.tdiv_one] at q0 q1 q2 q3
 have r1 := xgi (n := n) (c := 256) S.o
 have r2 := xgi (n := n) (c := 65536) S.o
 have r3 := xgi (n := n) (c := 16777216) S.o
 have hq : [Jp n 0, Jp n 1, Jp n 2, Jp n 3] = b4 n := rfl
 have e6 : (b4 n).length = 4 := rfl
 refine S.I fun u => ?_
 have hX := I7 @r1 @r2 @r3 @q0 @q1 @q2 @q3; repeat' (first | refine S.x ?_ | intro hb | fail)
 refine Tr.freezeAt S.K ?_
 rw [hq]
 clear hq
 repeat' (first | refine S.x ?_ | (refine G.call 200 ?_; refine S.c ?_ (h := xei ‹_› ‹_› ‹_› ‹_› ‹_›)) | rintro _ _ ⟨_, _, rfl, rfl⟩ | fail)
 all_goals exact Tr.fin hK ⟨_, by assumption, by rw [e6]; rfl, rfl⟩ S.E
theorem xkf {r : Nat} {s1 s2 : SV} {ms : List XH} {xs : List Msg} (hx : xs.map SL.d = ms.map XH.d) (hln : ms.length ≤ 1000000) (hr : ∀ m ∈ ms, okR m) :
  Xb prog 195 #[.pointer (some ⟨r, 0, none⟩)] (rmL r s1 s2 ms xs)
  fun v l' => ∃ xs2 : List Msg, xs2.map SL.d = (ms.map XH.clr).map XH.d ∧ v = .tuple #[] ∧ l' = rmL r s1 s2 (ms.map XH.clr) xs2 := by
 intro F K hK
 simp only [ap] at hK ⊢
 have hlx := xcs hx
 have hpm : (ms.map XH.clr).map XH.conf = ms.map XH.conf := by simp only [List.map_map]; rfl
 simp only [rmL, hpm] at hK
 refine S.I fun u => ?_
 have hX := @xhr.eq_def; repeat' (first | refine S.x ?_ | fail)
 refine Tr.loopE (α := Nat × List Msg) [2] [0] (fun x => [.int .i64 x.1]) (fun x => rmL r s1 s2 ms x.2) (fun x => x.1 ≤ ms.length ∧ x.2.map SL.d = (xaJ XH.clr ms x.1).map XH.d) (fun x => ms.length - x.1) (0, xs) S.T rfl ⟨Nat.zero_le _, hx⟩ fun x u hk => ?_
 obtain ⟨k, ys⟩ := x
 simp only at hk ⊢
 obtain ⟨hk, hy⟩ := hk
 simp only [ap]
 have hly : ys.length = ms.length := by rw [xcs hy, xb2]
 by_cases hin : k < ms.length
 ·have hw := Xo (k := k) S.o
  have hul := xb2 (f := XH.clr) (xs := ms) (k := k)
  have hd := xsr hy (k := (k : Int)) S.o S.o
  rw [xgq hin] at hd
  have hdl : (ix ys (k : Int)).d.length = (ix ms (k : Int)).d.length := by rw [hd]
  have hl256 := (hr _ (VK hin)).2.2
  have hX := I3 @xhr.eq_def hw hd; repeat' (first | refine S.x ?_ | intro hb | fail)
  have hrl : List.replicate ((ix ms (k : Int)).d.length : Int).toNat (default : UInt8) = (ix ms (k : Int)).clr.d := rfl
  rw [hrl]
  refine Tr.freezeAt (α := UInt8) (xs := (ix ms (k : Int)).clr.d) S.K ?_
  have hX := And.intro @xhr.eq_def hw; repeat' (first | refine S.x ?_ | fail)
  all_goals
   rename_i sv
   have hy2 : (ys.set k ⟨sv, (ix ms (k : Int)).clr.d⟩).map SL.d = (xaJ XH.clr ms (k + 1)).map XH.d := by rw [← xeo hin]; exact xrg hy
   exact S.R (k + 1, ys.set k ⟨sv, (ix ms (k : Int)).clr.d⟩)
 ·have hke : k = ms.length := by omega
  have hy2 : ys.map SL.d = (ms.map XH.clr).map XH.d := by rw [hy, hke, xeI]
  have hX := @xhr.eq_def; repeat' (first | refine S.x ?_ | fail)
  all_goals exact Tr.fin hK ⟨_, hy2, rfl, rfl⟩ S.E
theorem xhZ {s0 : SV} {cs : List xaL} : Xb prog 61 #[s0.v] [sl true s0.v cs]
  fun v l' => ∃ (b : Nat) (s1 s2 : SV) (xs : List Msg), xs.map SL.d = ((cs.take 4).map Wo).map XH.d ∧ v = .pointer (some ⟨b, 0, none⟩) ∧ l' = rmL b s1 s2 ((cs.take 4).map Wo) xs := by
 intro F K hK
 simp only [ap]
 refine Tr.bound (ro := true) (v := s0.v) (xs := cs) (by (repeat (first | exact Has.here | fail)); done) fun hbd => ?_
 have hpm : ((cs.take 4).map Wo).map XH.conf = cs.take 4 := by
  have : (fun c => (Wo c).conf) = id := rfl
  rw [List.map_map]
  show (cs.take 4).map (fun c => (Wo c).conf) = _
  rw [this, List.map_id]
 simp only [rmL, hpm] at hK
 refine S.I fun u => ?_
 have hX := @xnz.eq_def; repeat' (first | intro (nb : Nat) | refine S.x ?_ | fail)
 refine Tr.loopE (α := Nat × SV × SV × List Msg) [4] [0, 2, 3] (fun x => [.int .i64 x.1]) (fun x => rmB nb x.2.1 x.2.2.1 :: sl false x.2.1.v (cs.take x.1) :: sl false x.2.2.1.v x.2.2.2 :: [fzl x.2.2.2]) (fun x => x.1 ≤ cs.length ∧ x.1 ≤ 4 ∧ x.2.2.2.length = x.1 ∧ x.2.2.2.map SL.d = ((cs.take x.1).map Wo).map XH.d) (fun x => cs.length - x.1) (0, ⟨none, 0, 0⟩, ⟨none, 0, 0⟩, []) S.T rfl ⟨Nat.zero_le _, Nat.zero_le _, rfl, rfl⟩ fun x u hx => ?_
 obtain ⟨k, s1, s2, xs⟩ := x
 obtain ⟨hk, hk4, hl, hm⟩ := hx
 simp only at hk hk4 hl hm ⊢
 simp only [ap]
 have hlt : (cs.take k).length = k := by rw [List.length_take]; omega
 by_cases hin : k < cs.length ∧ k < 4
 ·obtain ⟨hin, hin4⟩ := hin
  have hw := Xo (k := k) S.o
  have c1 : decide ((k : Int) < 4) = true := by simp; omega
  have hsz := xra (ix cs (k : Int)).size
  have hX := I3 @xnz.eq_def hw @c1; repeat' (first | intro (sv : SV) | refine S.x ?_ | refine S.y ?_ ?_ | intro hb | fail)
  all_goals
   rename_i sa
   first
   | rw [xkv (c := ix cs (k : Int)) (z := 0) (xwz S.o)]
   | rw [xkv (c := ix cs (k : Int)) (z := 256) (xru S.o)]
   | rw [xkv (c := ix cs (k : Int)) (z := (ix cs (k : Int)).size) (xwL S.o S.o)]
   refine Tr.freezeAt (α := UInt8) (xs := (Wo (ix cs (k : Int))).d) S.K ?_
   have hX := And.intro @xnz.eq_def hw; repeat' (first | intro (sb2 : SV) | refine S.x ?_ | fail)
   have hts : cs.take (k + 1) = cs.take k ++ [ix cs (k : Int)] := Yz hin
   have hm2 : (xs ++ [(⟨sv, (Wo (ix cs (k : Int))).d⟩ : Msg)]).map SL.d = ((cs.take (k + 1)).map Wo).map XH.d := by rw [hts, List.map_append, List.map_append, List.map_append, hm]; rfl
   have hl2 : (xs ++ [(⟨sv, (Wo (ix cs (k : Int))).d⟩ : Msg)]).length = k + 1 := by rw [List.length_append, hl]; rfl
   rw [← hts]
   clear hts
   exact S.R (k + 1, sa, sb2, xs ++ [⟨sv, (Wo (ix cs (k : Int))).d⟩])
 ·have hke : cs.take k = cs.take 4 := by
   by_cases e : k = 4
   ·rw [e]
   ·rw [List.take_of_length_le S.o, List.take_of_length_le S.o]
  rw [hke] at hm ⊢
  by_cases h4 : k < 4
  ·have c1 : decide ((k : Int) < cs.length) = false := by simp; omega
   have hX := And.intro @xnz.eq_def @c1; repeat' (first | refine S.x ?_ | fail)
   all_goals exact Tr.fin hK ⟨_, _, _, _, hm, rfl, rfl⟩ S.E
  ·have c1 : decide ((k : Int) < 4) = false := by simp; omega
   have hX := And.intro @xnz.eq_def @c1; repeat' (first | refine S.x ?_ | refine S.y ?_ ?_ | intro hb | fail)
   all_goals exact Tr.fin hK ⟨_, _, _, _, hm, rfl, rfl⟩ S.E
