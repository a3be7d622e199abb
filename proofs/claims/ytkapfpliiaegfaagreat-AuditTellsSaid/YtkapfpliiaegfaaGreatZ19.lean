import Derived.Test.YtkapfpliiaegfaaGreatZ18
import Derived.Test.YtkapfpliiaegfaaGreatZ06
namespace Go.Proofs.YtkapfpliiaegfaaGreat
open Go Go.Wk Tryz
set_option maxHeartbeats 800000
set_option maxRecDepth 100000
structure QnC where
 name : ByteArray
 f : Option (Nat × List Value)
def fnV : Option (Nat × List Value) → Value
 | none => .nilFunc
 | some (g, cap) => .func (.func g) #[] cap.toArray
instance xLJ : Inhabited QnC := ⟨⟨ByteArray.empty, none⟩⟩
instance xL6 : En QnC := ⟨fun d => [.string d.name, fnV d.f], 2, fun _ => rfl, (fun d => by rcases d with ⟨n, _ | ⟨g, cap⟩⟩ <;> rfl), by decide⟩
instance xLY {l : List Xc} {s : ByteArray} {g : Nat} {cap : List Value} : De l (.agg #[.string s, .func (.func g) #[] cap.toArray]) (QnC.mk s (some (g, cap))) := ⟨rfl⟩
theorem xLD {g : Nat} {a b : Array Value} : (Value.func (.func g) a b).cells.toList = [.func (.func g) a b] := rfl
instance xLN : ElT 129 QnC := ⟨⟩
theorem xC3 {g : Nat} {cap : List Value} : fnV (some (g, cap)) = .func (.func g) #[] cap.toArray := rfl
abbrev qsL (cb lb rb : Nat) : List QnC := [⟨⟨#[98, 111, 117, 110, 100, 115]⟩, some (58, [.pointer (some ⟨cb, 0, none⟩), .pointer (some ⟨lb, 0, none⟩), .pointer (some ⟨rb, 0, none⟩)])⟩, ⟨⟨#[108, 101, 118, 101, 108, 115]⟩, some (59, [.pointer (some ⟨cb, 0, none⟩), .pointer (some ⟨lb, 0, none⟩), .pointer (some ⟨rb, 0, none⟩)])⟩, ⟨⟨#[98, 117, 100, 103, 101, 116, 115]⟩, some (60, [.pointer (some ⟨cb, 0, none⟩), .pointer (some ⟨rb, 0, none⟩)])⟩, ⟨⟨#[115, 117, 109, 115]⟩, some (61, [.pointer (some ⟨rb, 0, none⟩)])⟩, ⟨⟨#[119, 105, 110, 100, 111, 119, 115]⟩, some (62, [.pointer (some ⟨cb, 0, none⟩), .pointer (some ⟨lb, 0, none⟩), .pointer (some ⟨rb, 0, none⟩)])⟩]
def nmK (b1 b2 b3 b4 b5 : Bool) : Nat → List ByteArray
 | 0 => []
 | 1 => nmS b1 nm1
 | 2 => nmS b1 nm1 ++ nmS b2 nm2
 | 3 => nmS b1 nm1 ++ nmS b2 nm2 ++ nmS b3 nm3
 | 4 => nmS b1 nm1 ++ nmS b2 nm2 ++ nmS b3 nm3 ++ nmS b4 nm4
 | _ => xDf b1 b2 b3 b4 b5
theorem xDn {b : Bool} {s : ByteArray} : (nmS b s).length ≤ 1 := by
 unfold nmS
 split <;> simp
theorem xIc {b1 b2 b3 b4 b5 : Bool} {k : Nat} : (nmK b1 b2 b3 b4 b5 k).length ≤ 5 := by
 have := xDn (b := b1) (s := nm1)
 have := xDn (b := b2) (s := nm2)
 have := xDn (b := b3) (s := nm3)
 have := xDn (b := b4) (s := nm4)
 have := xDn (b := b5) (s := nm5)
 unfold nmK
 split <;> (try simp only [xDf, List.length_append, List.length_nil]) <;> omega
abbrev xC1 (cb lb rb : Nat) (c : xs2) (fv : SV) (fs : List xBL) (r : xCT) (q : xDt) : List Xc := [cfB cb c, fsB lb fv, rsB rb r, sl true fv.v fs, sl true c.parts.s.v c.parts.d, sl true c.modes.s.v c.modes.d, fzl c.modes.d, sl true c.levels.s.v c.levels.d, sl true c.down.s.v c.down.d, sl true c.up.s.v c.up.d, sl true r.ev.v q.evs, sl true r.bd.v q.bds, sl true r.rn.v q.rn, sl true r.sh.v q.sheds, sl true r.md.v q.modes, sl true r.cr.v q.creds, fzl q.creds]
section
attribute [local irreducible] BrK Xq Xt Xv XI FnK XZ Xw XC XV opX opK Yq Yk eqR Yj Yo Ys WL WD W X3 XO Tr drewK Ya X4 Yw Yv X1 YB mp blk rob sl sep ex fact old
section
attribute [local irreducible] xB2
section
variable {c : xs2} {fv : SV} {fs : List xBL} {r : xCT} {q : xDt} {cb lb rb : Nat}
theorem xJg (h : xGj c fs q) : Xb prog 58 #[.pointer (some ⟨cb, 0, none⟩), .pointer (some ⟨lb, 0, none⟩), .pointer (some ⟨rb, 0, none⟩)] [xCp (xC1 cb lb rb c fv fs r q)]
  fun v l' => v = .bool (xFN c fs q) ∧ l' = [xCp (xC1 cb lb rb c fv fs r q)] := by
 intro F K hK
 refine Tr.sepOp ?_
 simp only [ap]
 have k1 := xDX (c := c) (fv := fv) (fs := fs) (r := r) (bds := q.bds) h.s h.f h.w h.b
 refine S.I fun u => ?_
 repeat' (first | (refine G.call 13 ?_; refine S.c ?_ (h := k1); rintro _ _ ⟨n1, hn1, rfl, rfl⟩) | refine S.x ?_ | refine S.y ?_ ?_ | (refine G.prop ?_; assumption) | intro hb | ((fail_if_success refine G.tr ?_); exact G.prop S.p) | fail)
 all_goals
  have e1 : xFN c fs q = _ := hn1.ge
  rw [e1] at hK
  refine Tr.sepCl (Ls := xC1 cb lb rb c fv fs r q) S.T ?_
  exact Tr.fin hK ⟨rfl, rfl⟩ (by simp only [ap, List.append_eq]; exact S.E)
theorem xIV (h : xGj c fs q) : Xb prog 59 #[.pointer (some ⟨cb, 0, none⟩), .pointer (some ⟨lb, 0, none⟩), .pointer (some ⟨rb, 0, none⟩)] [xCp (xC1 cb lb rb c fv fs r q)]
  fun v l' => v = .bool (xFK c fs q) ∧ l' = [xCp (xC1 cb lb rb c fv fs r q)] := by
 intro F K hK
 refine Tr.sepOp ?_
 simp only [ap]
 have k1 := xDY (c := c) (fv := fv) (fs := fs) (r := r) (sheds := q.sheds) (modes := q.modes) h.s h.f h.h h.m
 refine S.I fun u => ?_
 repeat' (first | (refine G.call 15 ?_; refine S.c ?_ (h := k1); rintro _ _ ⟨n1, hn1, rfl, rfl⟩) | refine S.x ?_ | refine S.y ?_ ?_ | (refine G.prop ?_; assumption) | intro hb | ((fail_if_success refine G.tr ?_); exact G.prop S.p) | fail)
 all_goals
  have e1 : xFK c fs q = _ := hn1.ge
  rw [e1] at hK
  refine Tr.sepCl (Ls := xC1 cb lb rb c fv fs r q) S.T ?_
  exact Tr.fin hK ⟨rfl, rfl⟩ (by simp only [ap, List.append_eq]; exact S.E)
theorem xI5 (h : xGj c fs q) : Xb prog 60 #[.pointer (some ⟨cb, 0, none⟩), .pointer (some ⟨rb, 0, none⟩)] [xCp (xC1 cb lb rb c fv fs r q)]
  fun v l' => v = .bool (xFG c q) ∧ l' = [xCp (xC1 cb lb rb c fv fs r q)] := by
 intro F K hK
 refine Tr.sepOp ?_
 simp only [ap]
 have k1 := xDD (c := c) (r := r) (creds := q.creds) h.s h.a h.c
 refine S.I fun u => ?_
 repeat' (first | (refine G.call 17 ?_; refine S.c ?_ (h := k1); rintro _ _ ⟨n1, hn1, rfl, rfl⟩) | refine S.x ?_ | refine S.y ?_ ?_ | (refine G.prop ?_; assumption) | intro hb | ((fail_if_success refine G.tr ?_); exact G.prop S.p) | fail)
 all_goals
  have e1 : xFG c q = _ := hn1.ge
  rw [e1] at hK
  refine Tr.sepCl (Ls := xC1 cb lb rb c fv fs r q) S.T ?_
  exact Tr.fin hK ⟨rfl, rfl⟩ (by simp only [ap, List.append_eq]; exact S.E)
theorem xJw (h : xGj c fs q) : Xb prog 61 #[.pointer (some ⟨rb, 0, none⟩)] [xCp (xC1 cb lb rb c fv fs r q)]
  fun v l' => v = .bool (!xC0 r q.rn) ∧ l' = [xCp (xC1 cb lb rb c fv fs r q)] := by
 intro F K hK
 refine Tr.sepOp ?_
 simp only [ap]
 have k1 := xGg (r := r) (rn := q.rn) h.n
 refine S.I fun u => ?_
 repeat' (first | (refine G.call 19 ?_; refine S.c ?_ (h := k1); rintro _ _ ⟨rfl, rfl⟩) | refine S.x ?_ | refine S.y ?_ ?_ | (refine G.prop ?_; assumption) | intro hb | ((fail_if_success refine G.tr ?_); exact G.prop S.p) | fail)
 all_goals
  refine Tr.sepCl (Ls := xC1 cb lb rb c fv fs r q) S.T ?_
  exact Tr.fin hK ⟨rfl, rfl⟩ (by simp only [ap, List.append_eq]; exact S.E)
theorem xJz (h : xGj c fs q) : Xb prog 62 #[.pointer (some ⟨cb, 0, none⟩), .pointer (some ⟨lb, 0, none⟩), .pointer (some ⟨rb, 0, none⟩)] [xCp (xC1 cb lb rb c fv fs r q)]
  fun v l' => v = .bool (xFX c fs q) ∧ l' = [xCp (xC1 cb lb rb c fv fs r q)] := by
 intro F K hK
 refine Tr.sepOp ?_
 simp only [ap]
 have k1 := xDG (c := c) (fv := fv) (fs := fs) (r := r) (evs := q.evs) h.s h.f h.w h.e
 refine S.I fun u => ?_
 repeat' (first | (refine G.call 21 ?_; refine S.c ?_ (h := k1); rintro _ _ ⟨n1, hn1, rfl, rfl⟩) | refine S.x ?_ | refine S.y ?_ ?_ | (refine G.prop ?_; assumption) | intro hb | ((fail_if_success refine G.tr ?_); exact G.prop S.p) | fail)
 all_goals
  have e1 : xFX c fs q = _ := hn1.ge
  rw [e1] at hK
  refine Tr.sepCl (Ls := xC1 cb lb rb c fv fs r q) S.T ?_
  exact Tr.fin hK ⟨rfl, rfl⟩ (by simp only [ap, List.append_eq]; exact S.E)
theorem xKf (h : xGj c fs q) : Xb prog 24 #[.agg (En.enc c).toArray, fv.v, .agg (En.enc r).toArray] (xLt c fv fs ++ xJv r q)
  fun v l' => ∃ s : SV, v = s.v ∧ l' = [sl false s.v (xDf (xFN c fs q) (xFK c fs q) (xFG c q) (!xC0 r q.rn) (xFX c fs q))] := by
 intro F K hK
 simp only [ap]
 refine S.I fun u => ?_
 have hX := @xLD; repeat' (first | intro (xb : Nat) | intro (sv : SV) | refine S.x ?_ | refine S.y ?_ ?_ | (refine G.prop ?_; assumption) | intro hb | ((fail_if_success refine G.tr ?_); exact G.prop S.p) | fail)
 rename_i cb lb
 obtain ⟨rb, rfl⟩ : ∃ rb, rb = xb := ⟨_, rfl⟩
 have k1 := xJg (c := c) (fv := fv) (fs := fs) (r := r) (q := q) (cb := cb) (lb := lb) (rb := rb) h
 have k2 := xIV (c := c) (fv := fv) (fs := fs) (r := r) (q := q) (cb := cb) (lb := lb) (rb := rb) h
 have k3 := xI5 (c := c) (fv := fv) (fs := fs) (r := r) (q := q) (cb := cb) (lb := lb) (rb := rb) h
 have k4 := xJw (c := c) (fv := fv) (fs := fs) (r := r) (q := q) (cb := cb) (lb := lb) (rb := rb) h
 have k5 := xJz (c := c) (fv := fv) (fs := fs) (r := r) (q := q) (cb := cb) (lb := lb) (rb := rb) h
 refine Tr.sepCl (Ls := xC1 cb lb rb c fv fs r q) S.T ?_
 generalize xCp (xC1 cb lb rb c fv fs r q) = Z at *
 generalize xFN c fs q = b1 at *
 generalize xFK c fs q = b2 at *
 generalize xFG c q = b3 at *
 generalize xFX c fs q = b5 at *
 generalize (!xC0 r q.rn) = b4 at *
 refine Tr.nilSl (α := ByteArray) ?_
 refine Tr.loopE (α := Nat × SV) [7, 22] [6, 20, 21] (fun x => [x.2.v, .int .i64 x.1]) (fun x => [sl false x.2.v (nmK b1 b2 b3 b4 b5 x.1), sl false sv.v (qsL cb lb rb), Z]) (fun x => x.1 ≤ 5) (fun x => 5 - x.1) (0, ⟨none, 0, 0⟩) S.T rfl (Nat.zero_le _) fun x u hk => ?_
 obtain ⟨k, so⟩ := x
 simp only at hk ⊢
 simp only [ap]
 have hl5 : (qsL cb lb rb).length = 5 := rfl
 have q0 : ix (qsL cb lb rb) ((0 : Nat) : Int) = ⟨⟨#[98, 111, 117, 110, 100, 115]⟩, some (58, [.pointer (some ⟨cb, 0, none⟩), .pointer (some ⟨lb, 0, none⟩), .pointer (some ⟨rb, 0, none⟩)])⟩ := rfl
 have q1 : ix (qsL cb lb rb) ((1 : Nat) : Int) = ⟨⟨#[108, 101, 118, 101, 108, 115]⟩, some (59, [.pointer (some ⟨cb, 0, none⟩), .pointer (some ⟨lb, 0, none⟩), .pointer (some ⟨rb, 0, none⟩)])⟩ := rfl
 have q2 : ix (qsL cb lb rb) ((2 : Nat) : Int) = ⟨⟨#[98, 117, 100, 103, 101, 116, 115]⟩, some (60, [.pointer (some ⟨cb, 0, none⟩), .pointer (some ⟨rb, 0, none⟩)])⟩ := rfl
 have q3 : ix (qsL cb lb rb) ((3 : Nat) : Int) = ⟨⟨#[115, 117, 109, 115]⟩, some (61, [.pointer (some ⟨rb, 0, none⟩)])⟩ := rfl
 have q4 : ix (qsL cb lb rb) ((4 : Nat) : Int) = ⟨⟨#[119, 105, 110, 100, 111, 119, 115]⟩, some (62, [.pointer (some ⟨cb, 0, none⟩), .pointer (some ⟨lb, 0, none⟩), .pointer (some ⟨rb, 0, none⟩)])⟩ := rfl
 generalize qsL cb lb rb = qs at *
 have hnl := xIc (b1 := b1) (b2 := b2) (b3 := b3) (b4 := b4) (b5 := b5) (k := k)
 rcases (show k = 0 ∨ k = 1 ∨ k = 2 ∨ k = 3 ∨ k = 4 ∨ k = 5 by omega) with rfl | rfl | rfl | rfl | rfl | rfl
 ·have hw : IntKind.i64.wrap (((0 : Nat) : Int) + 1) = ((0 + 1 : Nat) : Int) := Xo S.o
  have htt : nmK true b2 b3 b4 b5 (0 + 1) = nmK true b2 b3 b4 b5 0 ++ [⟨#[98, 111, 117, 110, 100, 115]⟩] := rfl
  have htf : nmK false b2 b3 b4 b5 (0 + 1) = nmK false b2 b3 b4 b5 0 := rfl
  have hX := I4 hw hl5 @q0 @xC3; repeat' (first | intro (xb : Nat) | intro (s2 : SV) | (refine G.call 58 ?_; refine S.c ?_ (h := k1); rintro _ _ ⟨rfl, rfl⟩; cases b1) | refine S.x ?_ | refine S.y ?_ ?_ | (refine G.prop ?_; assumption) | intro hb | ((fail_if_success refine G.tr ?_); exact G.prop S.p) | fail)
  ·have hX := htf
   exact S.R ((0 + 1, so) : Nat × SV)
  ·have hX := htt
   exact S.R ((0 + 1, s2) : Nat × SV)
 ·have hw : IntKind.i64.wrap (((1 : Nat) : Int) + 1) = ((1 + 1 : Nat) : Int) := Xo S.o
  have htt : nmK b1 true b3 b4 b5 (1 + 1) = nmK b1 true b3 b4 b5 1 ++ [⟨#[108, 101, 118, 101, 108, 115]⟩] := rfl
  have htf : nmK b1 false b3 b4 b5 (1 + 1) = nmK b1 false b3 b4 b5 1 := List.append_nil _
  have hX := I4 hw hl5 @q1 @xC3; repeat' (first | intro (xb : Nat) | intro (s2 : SV) | (refine G.call 59 ?_; refine S.c ?_ (h := k2); rintro _ _ ⟨rfl, rfl⟩; cases b2) | refine S.x ?_ | refine S.y ?_ ?_ | (refine G.prop ?_; assumption) | intro hb | ((fail_if_success refine G.tr ?_); exact G.prop S.p) | fail)
  ·have hX := htf
   exact S.R ((1 + 1, so) : Nat × SV)
  ·have hX := htt
   exact S.R ((1 + 1, s2) : Nat × SV)
 ·have hw : IntKind.i64.wrap (((2 : Nat) : Int) + 1) = ((2 + 1 : Nat) : Int) := Xo S.o
  have htt : nmK b1 b2 true b4 b5 (2 + 1) = nmK b1 b2 true b4 b5 2 ++ [⟨#[98, 117, 100, 103, 101, 116, 115]⟩] := rfl
  have htf : nmK b1 b2 false b4 b5 (2 + 1) = nmK b1 b2 false b4 b5 2 := List.append_nil _
  have hX := I4 hw hl5 @q2 @xC3; repeat' (first | intro (xb : Nat) | intro (s2 : SV) | (refine G.call 60 ?_; refine S.c ?_ (h := k3); rintro _ _ ⟨rfl, rfl⟩; cases b3) | refine S.x ?_ | refine S.y ?_ ?_ | (refine G.prop ?_; assumption) | intro hb | ((fail_if_success refine G.tr ?_); exact G.prop S.p) | fail)
  ·have hX := htf
   exact S.R ((2 + 1, so) : Nat × SV)
  ·have hX := htt
   exact S.R ((2 + 1, s2) : Nat × SV)
 ·have hw : IntKind.i64.wrap (((3 : Nat) : Int) + 1) = ((3 + 1 : Nat) : Int) := Xo S.o
  have htt : nmK b1 b2 b3 true b5 (3 + 1) = nmK b1 b2 b3 true b5 3 ++ [⟨#[115, 117, 109, 115]⟩] := rfl
  have htf : nmK b1 b2 b3 false b5 (3 + 1) = nmK b1 b2 b3 false b5 3 := List.append_nil _
  have hX := I4 hw hl5 @q3 @xC3; repeat' (first | intro (xb : Nat) | intro (s2 : SV) | (refine G.call 61 ?_; refine S.c ?_ (h := k4); rintro _ _ ⟨rfl, rfl⟩; cases b4) | refine S.x ?_ | refine S.y ?_ ?_ | (refine G.prop ?_; assumption) | intro hb | ((fail_if_success refine G.tr ?_); exact G.prop S.p) | fail)
  ·have hX := htf
   exact S.R ((3 + 1, so) : Nat × SV)
  ·have hX := htt
   exact S.R ((3 + 1, s2) : Nat × SV)
 ·have hw : IntKind.i64.wrap (((4 : Nat) : Int) + 1) = ((4 + 1 : Nat) : Int) := Xo S.o
  have htt : nmK b1 b2 b3 b4 true (4 + 1) = nmK b1 b2 b3 b4 true 4 ++ [⟨#[119, 105, 110, 100, 111, 119, 115]⟩] := rfl
  have htf : nmK b1 b2 b3 b4 false (4 + 1) = nmK b1 b2 b3 b4 false 4 := List.append_nil _
  have hX := I4 hw hl5 @q4 @xC3; repeat' (first | intro (xb : Nat) | intro (s2 : SV) | (refine G.call 62 ?_; refine S.c ?_ (h := k5); rintro _ _ ⟨rfl, rfl⟩; cases b5) | refine S.x ?_ | refine S.y ?_ ?_ | (refine G.prop ?_; assumption) | intro hb | ((fail_if_success refine G.tr ?_); exact G.prop S.p) | fail)
  ·have hX := htf
   exact S.R ((4 + 1, so) : Nat × SV)
  ·have hX := htt
   exact S.R ((4 + 1, s2) : Nat × SV)
 ·have hfi := hK so.v [sl false so.v (nmK b1 b2 b3 b4 b5 5)] ⟨so, rfl, rfl⟩
  have hX := hl5; repeat' (first | refine S.x ?_ | refine S.y ?_ ?_ | (refine G.prop ?_; assumption) | intro hb | ((fail_if_success refine G.tr ?_); exact G.prop S.p) | fail)
  all_goals exact Tr.ent2 S.E hfi
end
end
noncomputable def xI0 : List Nat := [12, 27, 40, 64, 103, 149, 150, 151, 152, 201, 264, 265, 202, 266, 267, 203, 204, 268, 206, 273]
theorem xKK : xI0.all (xML prog (aut prog)) = true := by kernel_rfl
noncomputable def xJr : List Nat := [343, 274, 345, 207, 275, 276, 208, 153, 209, 210, 211, 277, 154, 155, 215, 216, 283, 282, 284, 285]
theorem xK5 : xJr.all (xML prog (aut prog)) = true := by kernel_rfl
noncomputable def xIT : List Nat := [348, 371, 95, 372, 389, 373, 97, 144, 197, 145, 146, 199, 101, 156, 87, 66, 130, 185, 225, 131]
theorem xKC : xIT.all (xML prog (aut prog)) = true := by kernel_rfl
noncomputable def xJo : List Nat := [65, 106, 107, 108, 109, 159, 217, 219, 221, 223, 110, 160, 111, 112, 114, 161, 178, 162, 226, 227]
theorem xKV : xJo.all (xML prog (aut prog)) = true := by kernel_rfl
noncomputable def xIW : List Nat := [67, 115, 45, 93, 141, 142, 195, 196, 262, 340, 341, 88, 132, 133, 68, 116, 84, 85, 134, 135]
theorem xKL : xIW.all (xML prog (aut prog)) = true := by kernel_rfl
noncomputable def xJR : List Nat := [189, 137, 186, 190, 254, 256, 193, 259, 337, 138, 96, 369, 327, 187, 188, 118, 165, 166, 167, 229]
theorem xKR : xJR.all (xML prog (aut prog)) = true := by kernel_rfl
noncomputable def xJc : List Nat := [168, 232, 290, 291, 169, 170, 237, 171, 239, 296, 175, 241, 251, 120, 174, 176, 119, 172, 173, 194]
theorem xLe : xJc.all (xML prog (aut prog)) = true := by kernel_rfl
noncomputable def xJH : List Nat := [49, 253, 332, 367, 385, 98, 252, 328, 329, 364, 382, 391, 392, 393, 394, 365, 333, 383, 384, 330]
theorem xK8 : xJH.all (xML prog (aut prog)) = true := by kernel_rfl
noncomputable def xJe : List Nat := [331, 90, 139, 366, 368, 122, 177, 179, 242, 298, 300, 230, 121, 240, 163, 297, 231, 286, 349, 70]
theorem xKN : xJe.all (xML prog (aut prog)) = true := by kernel_rfl
noncomputable def xJm : List Nat := [125, 124, 123, 180, 181, 129, 184, 250, 136, 89, 91, 24, 58, 13, 41, 92, 140, 42, 43, 59]
theorem xKI : xJm.all (xML prog (aut prog)) = true := by kernel_rfl
noncomputable def xHl : List Nat := [15, 46, 47, 60, 17, 50, 51, 61, 19, 54, 62, 21, 56, 57]
theorem xKk : xHl.all (xML prog (aut prog)) = true := by kernel_rfl
noncomputable def xBG (f : Nat) : Bool := xNg f xI0 || xNg f xJr || xNg f xIT || xNg f xJo || xNg f xIW || xNg f xJR || xNg f xJc || xNg f xJH || xNg f xJe || xNg f xJm || xNg f xHl
theorem xBI : ∀ f, xBG f = true → xML prog (aut prog) f = true := fun f h => by
 unfold xBG at h
 simp only [Bool.or_eq_true] at h
 rcases h with (((((((((h | h) | h) | h) | h) | h) | h) | h) | h) | h) | h
 ·exact xMu h xKK
 ·exact xMu h xK5
 ·exact xMu h xKC
 ·exact xMu h xKV
 ·exact xMu h xKL
 ·exact xMu h xKR
 ·exact xMu h xLe
 ·exact xMu h xK8
 ·exact xMu h xKN
 ·exact xMu h xKI
 ·exact xMu h xKk
noncomputable def xGl : Nat × CB := (84, .cells [.i .i64 1099511627776, .i .i64 8, .sl 7 0 2 2, .sn, .i .i64 0, .i .i64 0, .i .i64 1, .i .i64 8, .i .i64 32768, .i .i64 100, .i .i64 0] 231 true)
noncomputable def xBJ : Nat × CB := (7, .cells [.i .i64 5, .i .i64 10, .i .i64 10, .i .i64 40] 138 true)
noncomputable def xBN : Nat × CB := (82, .cells [.sl 86 0 1 1, .b true] 226 true)
noncomputable def xBO : Nat × CB := (86, .cells [.p 84 0] 227 false)
noncomputable def xCa : Nat × CB := (157, .cells [.i .i64 0] 3 true)
noncomputable def xCb : Nat × CB := (122, .cells [.sl 121 0 1 1, .i .i64 0, .i .i64 1, .i .i64 0, .sn, .b false] 221 true)
noncomputable def xB7 : Nat × CB := (124, .cells [.p 122 0] 218 false)
noncomputable def xCd : Nat × CB := (98, .cells [.m 97, .i .i64 1] 282 true)
noncomputable def xB9 : Nat × CB := (121, .cells [.i .i64 1, .i .i64 3, .i .i64 0, .i .i64 0, .i .i64 0, .i .i64 0] 68 true)
noncomputable def xCc : Nat × CB := (187, .cells [.p 185 0] 399 false)
noncomputable def xBU : Nat × CB := (97, .mp [(0, .ag [.i .i64 1, .i .i64 1, .i .i64 20, .i .i64 0, .i .i64 0, .i .i64 0, .i .i64 1, .i .i64 1, .i .i64 1, .i .i64 1, .b false])])
noncomputable def xBV : Nat × CB := (2, .cells [.i .i64 1, .i .i64 1, .i .i64 20] 134 true)
noncomputable def xE5 : Nat × CB := (84, .cells [.i .i64 1099511627776, .i .i64 8, .sl 7 0 2 2, .sn, .i .i64 0, .i .i64 0, .i .i64 1, .i .i64 8, .i .i64 32768, .i .i64 100, .i .i64 1] 231 true)
noncomputable def xEH : Nat × CB := (84, .cells [.i .i64 1099511627776, .i .i64 8, .sl 7 0 2 2, .sn, .i .i64 0, .i .i64 0, .i .i64 1, .i .i64 8, .i .i64 32768, .i .i64 100, .i .i64 2] 231 true)
noncomputable def xFp : Nat × CB := (84, .cells [.i .i64 1099511627776, .i .i64 8, .sl 7 0 2 2, .sn, .i .i64 0, .i .i64 0, .i .i64 1, .i .i64 8, .i .i64 32768, .i .i64 100, .i .i64 3] 231 true)
noncomputable def xFY : Nat × CB := (84, .cells [.i .i64 1099511627776, .i .i64 8, .sl 7 0 2 2, .sn, .i .i64 0, .i .i64 0, .i .i64 1, .i .i64 8, .i .i64 32768, .i .i64 100, .i .i64 4] 231 true)
noncomputable def xEt : Nat × CB := (84, .cells [.i .i64 1099511627776, .i .i64 8, .sl 7 0 2 2, .sn, .i .i64 0, .i .i64 0, .i .i64 1, .i .i64 8, .i .i64 32768, .i .i64 100, .i .i64 5] 231 true)
noncomputable def xF4 : Nat × CB := (84, .cells [.i .i64 1099511627776, .i .i64 8, .sl 7 0 2 2, .sn, .i .i64 0, .i .i64 0, .i .i64 1, .i .i64 8, .i .i64 32768, .i .i64 100, .i .i64 6] 231 true)
noncomputable def xEW : Nat × CB := (84, .cells [.i .i64 1099511627776, .i .i64 8, .sl 7 0 2 2, .sn, .i .i64 0, .i .i64 0, .i .i64 1, .i .i64 8, .i .i64 32768, .i .i64 100, .i .i64 7] 231 true)
noncomputable def xFh : Nat × CB := (84, .cells [.i .i64 1099511627776, .i .i64 8, .sl 7 0 2 2, .sn, .i .i64 0, .i .i64 0, .i .i64 1, .i .i64 8, .i .i64 32768, .i .i64 100, .i .i64 8] 231 true)
noncomputable def xE6 : Nat × CB := (84, .cells [.i .i64 1099511627776, .i .i64 8, .sl 7 0 2 2, .sn, .i .i64 0, .i .i64 0, .i .i64 1, .i .i64 8, .i .i64 32768, .i .i64 100, .i .i64 9] 231 true)
noncomputable def xFZ : Nat × CB := (84, .cells [.i .i64 1099511627776, .i .i64 8, .sl 7 0 2 2, .sn, .i .i64 0, .i .i64 0, .i .i64 1, .i .i64 8, .i .i64 32768, .i .i64 100, .i .i64 10] 231 true)
noncomputable def xFU : Nat × CB := (84, .cells [.i .i64 1099511627776, .i .i64 8, .sl 7 0 2 2, .sn, .i .i64 0, .i .i64 0, .i .i64 1, .i .i64 8, .i .i64 32768, .i .i64 100, .i .i64 11] 231 true)
noncomputable def xFE : Nat × CB := (84, .cells [.i .i64 1099511627776, .i .i64 8, .sl 7 0 2 2, .sn, .i .i64 0, .i .i64 0, .i .i64 1, .i .i64 8, .i .i64 32768, .i .i64 100, .i .i64 12] 231 true)
noncomputable def xEo : Nat × CB := (84, .cells [.i .i64 1099511627776, .i .i64 8, .sl 7 0 2 2, .sn, .i .i64 0, .i .i64 0, .i .i64 1, .i .i64 8, .i .i64 32768, .i .i64 100, .i .i64 13] 231 true)
noncomputable def xFJ : Nat × CB := (84, .cells [.i .i64 1099511627776, .i .i64 8, .sl 7 0 2 2, .sn, .i .i64 0, .i .i64 0, .i .i64 1, .i .i64 8, .i .i64 32768, .i .i64 100, .i .i64 14] 231 true)
noncomputable def xEI : Nat × CB := (84, .cells [.i .i64 1099511627776, .i .i64 8, .sl 7 0 2 2, .sn, .i .i64 0, .i .i64 0, .i .i64 1, .i .i64 8, .i .i64 32768, .i .i64 100, .i .i64 15] 231 true)
noncomputable def xE8 : Nat × CB := (84, .cells [.i .i64 1099511627776, .i .i64 8, .sl 7 0 2 2, .sn, .i .i64 0, .i .i64 0, .i .i64 1, .i .i64 8, .i .i64 32768, .i .i64 100, .i .i64 16] 231 true)
noncomputable def xFQ : Nat × CB := (84, .cells [.i .i64 1099511627776, .i .i64 8, .sl 7 0 2 2, .sn, .i .i64 0, .i .i64 0, .i .i64 1, .i .i64 8, .i .i64 32768, .i .i64 100, .i .i64 17] 231 true)
noncomputable def xEl : Nat × CB := (84, .cells [.i .i64 1099511627776, .i .i64 8, .sl 7 0 2 2, .sn, .i .i64 0, .i .i64 0, .i .i64 1, .i .i64 8, .i .i64 32768, .i .i64 100, .i .i64 18] 231 true)
noncomputable def xFO : Nat × CB := (84, .cells [.i .i64 1099511627776, .i .i64 8, .sl 7 0 2 2, .sn, .i .i64 0, .i .i64 0, .i .i64 1, .i .i64 8, .i .i64 32768, .i .i64 100, .i .i64 19] 231 true)
