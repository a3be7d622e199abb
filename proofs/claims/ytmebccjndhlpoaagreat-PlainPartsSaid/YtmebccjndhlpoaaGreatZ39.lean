import Derived.Test.YtmebccjndhlpoaaGreatZ38
import Derived.Test.YtmebccjndhlpoaaGreatZ12
import Derived.Test.YtmebccjndhlpoaaGreatZ37
namespace Go.Proofs.YtmebccjndhlpoaaGreat
open Go Go.Wk Tryz
set_option maxHeartbeats 6400000
set_option maxRecDepth 100000
abbrev drB (d p m : Nat) : Xc := blk d (.cells #[.pointer (some ⟨p, 0, none⟩), .map (some m)] 269 (0, 0))
theorem Tr.closeP {Gs : List PG} {k : Nat} {g : PG} {l l1 l2 l3 l4 : List Xc} {X : WP} (hk : k < Gs.length) (t1 : Xm l (fam xBT (Gs.eraseIdx k)) l1) (t2 : Xm l1 (poB g.p g.s) l2) (t3 : Xm l2 (fam Ym g.gs) l3) (t4 : Xm l3 (sl false g.s.v (g.gs.map Xg.pt)) l4)
  (hx : Tr (fam xBT (Gs.set k g) :: l4) X) : Tr l X :=
 hx.imp (Xd.famSet (d := []) t1 hk (Imp.trans (Imp.trans (Imp.trans t2 (Imp.cons (Imp.trans t3 (Imp.cons t4)))) (Imp.cons Imp.sepI)) Imp.sepI))
theorem xNd {a b : Value} : (some a).getD b = a := rfl
theorem xM5 {a : Value} : (some a).isSome = true := rfl
theorem xNf {b : Value} : (none : Option Value).getD b = b := rfl
theorem xM4 : (none : Option Value).isSome = false := rfl
section
attribute [local irreducible] BrK Xq Xt Xv XI FnK XZ Xw XC XV opX opK Yq Yk eqR Yj Yo Ys WL WD W X3 XO Tr drewK Ya X4 Yw Yv X1 YB mp blk rob sl sep ex fact old
section
attribute [local irreducible] chn Go.Wk.CW chM
theorem xLT {d p m : Nat} {k : Int} {kvs : List (Int × Value)} {s : SV} (hf : find k kvs = some (SV.v s)) : Xb prog 138 #[.pointer (some ⟨d, 0, none⟩), .int .i64 k] [drB d p m, mp m kvs] fun v l' => v = SV.v s ∧ l' = [drB d p m, mp m kvs] := by
 intro F K hK
 simp only [ap]
 refine S.I fun u => ?_
 have hX := I3 hf (@xNd) (@xM5); repeat' (first | refine S.x ?_ | fail)
 all_goals
  refine Tr.fin hK ⟨rfl, rfl⟩ ?_
  exact S.E
theorem xKA {d p m : Nat} {k : Int} {kvs : List (Int × Value)} {s : SV} {gs : List Xg} (hf : find k kvs = none) (hl : (ix gs k).m.d.length ≤ 1000000) : Xb prog 138 #[.pointer (some ⟨d, 0, none⟩), .int .i64 k] [drB d p m, mp m kvs, poB p s, fam Ym gs, sl false s.v (gs.map Xg.pt)]
  fun v l' => ∃ r : SL Msg, r.d.map SL.d = Wa gs k ∧ v = SV.v r.s ∧ l' = [drB d p m, mp m (kvs ++ [(k, SV.v r.s)]), poB p s, fam Ym (JD gs k), sl false s.v ((JD gs k).map Xg.pt), sl false (SV.v r.s) r.d, fzl r.d] := by
 intro F K hK
 simp only [ap]
 have hu : ∀ v, ZC k v kvs = kvs ++ [(k, v)] := fun v => xah hf
 refine S.I fun u => ?_
 have hX := I4 hf hu (@xNf) @xM4; repeat' (first | (refine G.call 201 ?_; refine S.c ?_ (h := xqv hl); rintro _ _ ⟨r, hrd, rfl, rfl⟩) | refine S.x ?_ | fail)
 all_goals
  apply Tr.fin hK ⟨_, hrd, rfl, rfl⟩
  exact S.E
theorem xJV {d p m n : Nat} {k : Int} {qs : List Int} {rs : List (SL Msg)} {s : SV} {gs : List Xg} {ab0 : List AP} (hK0 : xED ab0 (gs.map Xg.abs) qs rs) (hv : xb0 gs n) : Xb prog 138 #[.pointer (some ⟨d, 0, none⟩), .int .i64 k] [drB d p m, mp m (xD7 qs rs), fzl rs, poB p s, fam Ym gs, sl false s.v (gs.map Xg.pt)]
  fun v l' => ∃ (qs2 : List Int) (rs2 : List (SL Msg)) (gs2 : List Xg) (r : SL Msg), xED ab0 (gs2.map Xg.abs) qs2 rs2 ∧ xb0 gs2 n ∧ gs2.map Xg.abs = YQ (gs.map Xg.abs) k ∧ r.d.map SL.d = Zl ab0 k ∧ v = SV.v r.s ∧ l' = [Fz.fz r, drB d p m, mp m (xD7 qs2 rs2), fzl rs2, poB p s, fam Ym gs2, sl false s.v (gs2.map Xg.pt)] := by
 intro F K hK
 simp only [ap]
 by_cases hk : k ∈ qs
 ·obtain ⟨i, hi, hf, hr, hd⟩ := hK0.hit hk
  refine S.c ?_ (h := xLT hf)
  rintro _ _ ⟨rfl, rfl⟩
  simp only [ap]
  apply Tr.fin hK ⟨qs, rs, gs, ix rs (i : Int), hK0, hv, hd.symm, hr, rfl, rfl⟩
  exact S.E
 ·have hf := xEC hK0.len hk
  have hmm := xLG hv k
  refine S.c ?_ (h := xKA hf S.o)
  rintro _ _ ⟨r, hrd, rfl, rfl⟩
  simp only [ap]
  have had := xfk hv (k := k)
  have hm := hK0.miss hk (r := r) (by rw [hrd, had.1])
  have hks := xE5 (q := k) (r := r) hK0.len
  refine Tr.freezeAt (α := Msg) S.K ?_
  apply Tr.fin hK ⟨qs ++ [k], rs ++ [r], JD gs k, r, (by rw [had.2]; exact hm.2), xnj hv, had.2, hm.1, rfl, rfl⟩
  (have hX := hks; exact S.E)
theorem xI9 {chs : List xBK} {part : Int} {k : Int} (h : k ∈ xCE chs part) : 0 ≤ k ∧ k < (min chs.length 16 : Nat) := by
 unfold xCE xC3 at h
 obtain ⟨j, hj, rfl⟩ := List.mem_map.1 h
 have := List.mem_range.1 (List.mem_filter.1 hj).1
 omega
end
section
def mwI (ms : List xBH) (i : Nat) : xFn := if i < ms.length then (ix ms (i : Int)).w else default
theorem xLO {ms : List xBH} {i : Nat} (h : i < ms.length) : mwI ms i = (ix ms (i : Int)).w := if_pos h
theorem xIY {ms : List xBH} {i : Nat} : ((ms.map xBH.w).drop i).headD default = mwI ms i := by
 unfold mwI
 by_cases h : i < ms.length
 ·rw [if_pos h, List.drop_eq_getElem_cons (by simpa using h)]; simp [ix, h]
 ·rw [if_neg h, List.drop_eq_nil_of_le (by simp; omega)]; rfl
theorem xJs {ab : List AP} (hok : xGx ab) {k : Int} {r : SL Msg} (hr : r.d.map SL.d = Zl ab k) {i : Nat} (hi : i < r.d.length) : (ix r.d (i : Int)).d.length ≤ 300 := by
 refine xEw hok (k := k) _ ?_
 rw [← hr]
 exact List.mem_map.2 ⟨_, List.mem_of_getElem? (Yi S.o S.o), rfl⟩
theorem xG7 {ab : List AP} (hok : xGx ab) {chs : List xBK} {win : Int} {l : List Int} : ∀ m ∈ xCK ab chs win l, m.2.2.length ≤ 300 := by
 intro m hm
 obtain ⟨k, _, hk⟩ := List.mem_flatMap.1 hm
 obtain ⟨d, hd, rfl⟩ := List.mem_map.1 hk
 exact xEw hok d hd
attribute [local irreducible] chn Go.Wk.CW chM
theorem xJt {u0 : Value} {c : xEB} [hd : DeA u0 c] {chs : List xBK} {part win : Int} {all : SV} {Gs : List PG} {n : Nat} (hv : xDS Gs n) (hn : n ≤ 800000) (hok : xGx (ix (Gs.map PG.ab) part)) :
  Xb prog 88 #[u0, .int .i64 part, .int .i64 win, all.v] [sl true c.chans.v chs, sl true all.v (Gs.map PG.pt), fam xBT Gs]
  fun v l' => ∃ (Gs2 : List PG) (s2 : SV) (ms : List xBH), ms.map xBH.ab = xCF chs part win (Gs.map PG.ab) ∧ xDS Gs2 (n + 4096) ∧ Gs2.map PG.pt = Gs.map PG.pt ∧ Gs2.map PG.ab = xB5 chs part win (Gs.map PG.ab) ∧ v = SV.v s2 ∧ l' = [sl false (SV.v s2) ms, fzl ms, fam xBT Gs2] := by
 obtain rfl := hd.h
 intro F K hK
 simp only [ap]
 obtain ⟨c1, c2, c3, c4, c5, c6, c7, c8, c9, c10, c11, c12, c13⟩ := c
 by_cases hin : 0 ≤ part ∧ part < Gs.length
 ·obtain ⟨h0, h1⟩ := hin
  have hst : xHL (Gs.map PG.ab) part := ⟨h0, by rw [xFw]; exact h1⟩
  have hi := xG9 hv h0 h1
  have hab : ix (Gs.map PG.ab) part = (ix Gs part).gs.map Xg.abs := xJj h0 h1
  have hp : ix (Gs.map PG.pt) part = ⟨some (ix Gs part).p⟩ := Xp (f := PG.pt) h0 h1
  have hkn : part.toNat < Gs.length := by omega
  refine Tr.famAt (A := xBT) part S.K h0 h1 ?_
  refine xEe ?_
  refine S.I fun u => ?_
  have hX := hp; repeat' (first | (refine G.call 137 ?_; refine S.c ?_ (h := xJC (n := 4096) S.o); rintro _ _ ⟨_, _, rfl, rfl⟩) | refine S.x ?_ | (refine G.call 33 ?_; refine S.c ?_ (h := xGT)) | rintro _ _ ⟨_, rfl, rfl⟩ | intro hb | fail)
  rename_i cb hft mm r cc os
  obtain ⟨dd, hdd⟩ : ∃ dd, dd = hb := ⟨_, rfl⟩
  subst hdd
  generalize hab0 : (ix Gs part).gs.map Xg.abs = ab0 at hab
  have hok' : xGx ab0 := hab ▸ hok
  generalize houts : xCE chs part = outs
  have hom : ∀ k ∈ outs, 0 ≤ k ∧ k < (min chs.length 16 : Nat) := fun k h => xI9 (houts ▸ h)
  have hol : outs.length ≤ 16 := by have := xE2 (chs := chs) (part := part) (n := min chs.length 16); rw [← houts]; unfold xCE; omega
  refine Tr.loopE (α := Nat × List Int × List (SL Msg) × List Xg × List xBH) [38] [2, 3, 4, 8, 9, 10, 36, 37] (fun x => [.int .i64 x.1]) (fun x => [mp mm (xD7 x.2.1 x.2.2.1), fzl x.2.2.1, fam Ym x.2.2.2.1, sl false (ix Gs part).s.v (x.2.2.2.1.map Xg.pt), chM cc 4096 (x.2.2.2.2.map xBH.w), fzl x.2.2.2.2])
   (fun x => x.1 ≤ outs.length ∧ xED ab0 (x.2.2.2.1.map Xg.abs) x.2.1 x.2.2.1 ∧ xb0 x.2.2.2.1 n ∧ x.2.2.2.1.map Xg.abs = xCl ab0 chs (outs.take x.1) ∧ x.2.2.2.2.map xBH.ab = (xCK ab0 chs win (outs.take x.1)).take 4096) (fun x => outs.length - x.1)
   (0, [], [], (ix Gs part).gs, []) S.T rfl ⟨by omega, by rw [hab0]; exact xED.nil, hi, hab0, by simp [xCK]⟩ fun x u hx => ?_
  obtain ⟨j, qs, rs, gs, ms⟩ := x
  simp only at hx ⊢
  obtain ⟨hj, hKp, hvg, hga, hma⟩ := hx
  have hw := Xo (k := j) S.o
  by_cases hjn : j < outs.length
  ·have htk : outs.take (j + 1) = outs.take j ++ [ix outs (j : Int)] := Yz hjn
   have hm := hom (ix outs (j : Int)) (List.mem_of_getElem? (Yi S.o S.o))
   obtain ⟨hm0, hm1⟩ := hm
   generalize hkk : ix outs (j : Int) = kk at hm0 hm1 htk
   have hX := I3 hw hkk @Nat.add_zero; repeat' (first | rintro _ _ ⟨qs2, rs2, gs2, rr, hKp2, hvg2, hga2, hrr, rfl, rfl⟩ | (refine G.call 138 ?_; refine S.c ?_ (h := xJV hKp hvg)) | refine S.x ?_ | intro hb | fail)
   have hrl : (Zl ab0 (ix chs kk).fo).length = rr.d.length := by rw [← hrr, List.length_map]
   have hQ : ∀ {x : List AP}, x = YQ (gs.map Xg.abs) (ix chs kk).fo → x = xCl ab0 chs (outs.take (j + 1)) := fun h => by rw [h, htk, xEV, hga]
   have hfin : xCK ab0 chs win (outs.take (j + 1)) = xCK ab0 chs win (outs.take j) ++ (Zl ab0 (ix chs kk).fo).map fun d => (kk, win, d) := by rw [htk, xFI]
   generalize hX : xCK ab0 chs win (outs.take j) = X at hma hfin
   generalize hD : Zl ab0 (ix chs kk).fo = D at hrr hrl hfin
   refine Tr.bound (ro := true) (v := SV.v rr.s) (xs := rr.d) ZV.h fun hbr => ?_
   refine Tr.loopE (α := Nat × List xBH) [52] [2, 3, 4, 8, 9, 10, 12, 36, 37, 38, 50, 51] (fun x => [.int .i64 x.1]) (fun x => [chM cc 4096 (x.2.map xBH.w), fzl x.2])
    (fun x => x.1 ≤ rr.d.length ∧ x.2.map xBH.ab = (X ++ (D.take x.1).map fun d => (kk, win, d)).take 4096) (fun x => rr.d.length - x.1) (0, ms) S.T rfl ⟨by omega, by simp only [List.take_zero, List.map_nil, List.append_nil]; exact hma⟩ fun x u hx => ?_
   obtain ⟨i, ms2⟩ := x
   simp only at hx ⊢
   obtain ⟨hil, hmi⟩ := hx
   by_cases hin2 : i < rr.d.length
   ·have hw2 := Xo (k := i) S.o
    have hdl : (ix rr.d (i : Int)).d.length ≤ 300 := xJs hok' (by rw [hrr, ← hD]) hin2
    have hDi : D.take (i + 1) = D.take i ++ [(ix rr.d (i : Int)).d] := by
     rw [Yz S.o, ← hrr, Xp (f := SL.d) S.o S.o]
    have hXs : X ++ ((D.take (i + 1)).map fun d => (kk, win, d)) = (X ++ (D.take i).map fun d => (kk, win, d)) ++ [(kk, win, (ix rr.d (i : Int)).d)] := by rw [hDi, List.map_append, ← List.append_assoc]; rfl
    have hsn : ∀ t : SV, ms2.length < 4096 → (ms2 ++ [(⟨kk, win, ⟨t, (ix rr.d (i : Int)).d⟩⟩ : xBH)]).map xBH.ab = (X ++ (D.take (i + 1)).map fun d => (kk, win, d)).take 4096 := fun t hlt => by
     rw [hXs, xFe, ← hmi, if_pos (by rw [List.length_map]; exact hlt), List.map_append]; rfl
    have hsf : ¬ ms2.length < 4096 → ms2.map xBH.ab = (X ++ (D.take (i + 1)).map fun d => (kk, win, d)).take 4096 := fun hlt => by
     rw [hXs, xFe, ← hmi, if_neg (by rw [List.length_map]; exact hlt)]
    have hwm : ∀ t : SV, (ms2 ++ [(⟨kk, win, ⟨t, (ix rr.d (i : Int)).d⟩⟩ : xBH)]).map xBH.w = ms2.map xBH.w ++ [⟨kk, win, t⟩] := fun t => by simp [xBH.w]
    have hlw : (ms2.map xBH.w).length = ms2.length := List.length_map _
    by_cases hlt : ms2.length < 4096
    ·have hsn2 := fun t => hsn t hlt
     have hX := I3 hw2 hlw hlt; repeat' (first | refine S.x ?_ | (refine G.call 35 ?_; refine S.c ?_ (h := We S.o)) | (refine G.call 139 ?_; refine S.c ?_ (h := xFK)) | rintro _ _ ⟨rfl, rfl⟩ | rintro _ _ ⟨_, rfl, rfl⟩ | intro hb | fail)
     all_goals (apply Tr.againE ((i + 1, ms2 ++ [(⟨kk, win, ⟨_, (ix rr.d (i : Int)).d⟩⟩ : xBH)])); (focus (simp only [WKb, ↓reduceIte, Nat.reduceEqDiff])); (focus ((try simp only [WKb, ↓reduceIte]); (all_goals ((repeat (refine Jl (by first | rfl | ((try clear hK) <;> first | (simp [*, hwm]; done) | (simp [*, hwm]; omega) | (simp [*, hwm] <;> (try split) <;> simp_all <;> omega))) ?_)); rfl)); done)); rotate_left 2; (focus ((have hX := hwm; exact S.E))); (focus (first | ((try simp only []); (repeat' (first | omega | apply hsn2 | refine And.intro ?_ ?_)); done))); (focus (first | omega | fail)))
    ·have hsf2 := hsf hlt
     have hX := I3 hw2 hlw hlt; repeat' (first | refine S.x ?_ | (refine G.call 35 ?_; refine S.c ?_ (h := We S.o)) | (refine G.call 139 ?_; refine S.c ?_ (h := xFK)) | rintro _ _ ⟨rfl, rfl⟩ | rintro _ _ ⟨_, rfl, rfl⟩ | intro hb | fail)
     all_goals (apply Tr.againE ((i + 1, _)); (focus (simp only [WKb, ↓reduceIte, Nat.reduceEqDiff])); (focus ((try simp only [WKb, ↓reduceIte]); (all_goals ((repeat (refine Jl (by first | rfl | (simp [*]; done)) ?_)); rfl)); done)); rotate_left 2; (focus (exact S.E)); (focus (first | (refine ⟨by omega, by assumption⟩) | fail)); (focus (first | omega | fail)))
   ·have hii : i = rr.d.length := by omega
    have hDt : D.take i = D := List.take_of_length_le S.o
    have hfm : ms2.map xBH.ab = (xCK ab0 chs win (outs.take (j + 1))).take 4096 := by rw [hmi, hDt, hfin]
    have hgx := hQ hga2
    have hX := hw; repeat' (first | refine S.x ?_ | fail)
    all_goals (apply Tr.againE ((j + 1, _, _, _, _)); (focus (simp only [WKb, ↓reduceIte, Nat.reduceEqDiff])); (focus ((try simp only [WKb, ↓reduceIte]); (all_goals ((repeat (refine Jl (by first | rfl | (simp [*]; done)) ?_)); rfl)); done)); rotate_left 2; (focus (exact S.E)); (focus (first | ((try simp only []); (repeat' (first | omega | refine And.intro ?_ ?_)); done))); (focus (first | omega | fail)))
  ·have hjj : j = outs.length := by omega
   subst hjj
   rw [List.take_length] at hga hma
   generalize hG1 : Gs.set part.toNat { ix Gs part with gs := gs } = G1
   have hv1 : xDS G1 n := hG1 ▸ xFM hv hvg
   have hp1 : G1.map PG.pt = Gs.map PG.pt := hG1 ▸ YW (f := PG.pt) h0 h1 _ rfl
   have ha1 : G1.map PG.ab = (Gs.map PG.ab).set part.toNat (xCl ab0 chs outs) := by rw [← hG1, List.map_set, ← hga]; rfl
   have hmsl : ms.length ≤ 4096 := by have := congrArg List.length hma; rw [List.length_map, List.length_take] at this; omega
   have hmd : ∀ i : Nat, i < ms.length → (ix ms (i : Int)).d.d.length ≤ 300 := fun i h => by
    have h2 : (ix ms (i : Int)).ab ∈ ms.map xBH.ab := List.mem_map.2 ⟨_, List.mem_of_getElem? (Yi S.o S.o), rfl⟩
    rw [hma] at h2
    exact xG7 hok' _ (List.mem_of_mem_take h2)
   refine Tr.closeP (Gs := Gs) (k := part.toNat) (g := { ix Gs part with gs := gs }) hkn S.K S.K S.K S.K ?_
   rw [hG1]
   have hmv : ∀ i : Nat, mvW (((ms.map xBH.w).drop i).headD default) = .agg #[.int .i64 (mwI ms i).ch, .int .i64 (mwI ms i).win, (mwI ms i).s.v] := fun i => by rw [xIY]; rfl
   have hmv0 : mvW ((ms.map xBH.w).headD default) = .agg #[.int .i64 (mwI ms 0).ch, .int .i64 (mwI ms 0).win, (mwI ms 0).s.v] := by have := hmv 0; rwa [List.drop_zero] at this
   have hlw : (ms.map xBH.w).length = ms.length := List.length_map _
   have htl0 : (ms.map xBH.w).tail = (ms.map xBH.w).drop (0 + 1) := by simp
   have hX := And.intro hmv0 hlw; repeat' (first | refine S.x ?_ | (refine G.call 140 ?_; refine S.c ?_ (h := xFH)) | rintro _ _ ⟨rfl, rfl⟩ | intro hb | fail)
   obtain ⟨bb, hbb⟩ : ∃ bb, bb = hb := ⟨_, rfl⟩
   subst hbb
   simp only [htl0]
   refine Tr.nilSl (α := xBH) ?_
   refine Tr.loopE (α := Nat × SV × Nat × List PG) [15, 16, 17] [3, 4, 8, 10] (fun x => [x.2.1.v, .pointer (some ⟨x.2.2.1, 0, none⟩), .bool (decide (x.1 < ms.length))]) (fun x => [blk x.2.2.1 (.cells #[.int .i64 (mwI ms x.1).ch, .int .i64 (mwI ms x.1).win, (mwI ms x.1).s.v] 71 (0, 0)), chM cc 4096 ((ms.map xBH.w).drop (x.1 + 1)), sl false x.2.1.v (ms.take x.1), fam xBT x.2.2.2])
    (fun x => x.1 ≤ ms.length ∧ xDS x.2.2.2 (n + x.1) ∧ x.2.2.2.map PG.pt = Gs.map PG.pt ∧ x.2.2.2.map PG.ab = xCk chs ((ms.map xBH.ab).take x.1) (G1.map PG.ab)) (fun x => ms.length - x.1) (0, ⟨none, 0, 0⟩, bb, G1) S.T rfl ⟨by omega, hv1, hp1, by simp [xCk]⟩ fun x u hx => ?_
   obtain ⟨i, so, b2, G2⟩ := x
   simp only at hx ⊢
   obtain ⟨hil, hv2, hp2, ha2⟩ := hx
   by_cases hin3 : i < ms.length
   ·have hmw := xLO hin3
    have hm1 : (mwI ms i).ch = (ix ms (i : Int)).ch := by rw [hmw]; rfl
    have hm2 : (mwI ms i).win = (ix ms (i : Int)).win := by rw [hmw]; rfl
    have hm3 : (mwI ms i).s = (ix ms (i : Int)).d.s := by rw [hmw]; rfl
    have hdt : decide (i < ms.length) = true := by simpa using hin3
    have hdl := hmd i hin3
    have htk : ms.take (i + 1) = ms.take i ++ [ix ms (i : Int)] := Yz hin3
    have htk2 : ms.take (i + 1) = ms.take i ++ [(⟨(ix ms (i : Int)).ch, (ix ms (i : Int)).win, ⟨(ix ms (i : Int)).d.s, (ix ms (i : Int)).d.d⟩⟩ : xBH)] := htk
    have hab2 : (ms.map xBH.ab).take (i + 1) = (ms.map xBH.ab).take i ++ [(ix ms (i : Int)).ab] := by rw [← List.map_take, ← List.map_take, htk, List.map_append]; rfl
    have hnx : ∀ {y : St}, y = xCe chs (ix ms (i : Int)).ch (ix ms (i : Int)).d.d (G2.map PG.ab) → y = xCk chs ((ms.map xBH.ab).take (i + 1)) (G1.map PG.ab) := fun h => by rw [h, hab2, xEU, ha2]; rfl
    have htl : ((ms.map xBH.w).drop (i + 1)).tail = (ms.map xBH.w).drop (i + 1 + 1) := by simp
    have hdl2 : decide (0 < ((ms.map xBH.w).drop (i + 1)).length) = decide (i + 1 < ms.length) := by rw [decide_eq_decide, List.length_drop, hlw]; omega
    have hln : (ms.take i).length = i := by rw [List.length_take]; omega
    simp only [hm1, hm2, hm3, ← hp2] at *
    have hX := I5 hdt hmv htl hdl2 hlw; repeat' (first | (refine G.call 141 ?_; refine S.c ?_ (h := xIp (c := ⟨c1, c2, c3, c4, c5, c6, c7, c8, c9, c10, c11, c12, c13⟩) (d := (ix ms (i : Int)).d.d) hv2 S.o hdl); rintro _ _ ⟨G3, hv3, hp3, ha3, rfl, rfl⟩) | refine S.x ?_ | (refine G.call 140 ?_; refine S.c ?_ (h := xFH)) | rintro _ _ ⟨rfl, rfl⟩ | intro hb | fail)
    all_goals
     have hq3 := hnx ha3
     (apply Tr.againE ((i + 1, _, _, G3)); (focus (simp only [WKb, ↓reduceIte, Nat.reduceEqDiff])); (focus ((try simp only [WKb, ↓reduceIte, Nat.reduceEqDiff]); (all_goals ((repeat (refine Jl (by first | rfl | fail) ?_)); rfl)); done)); rotate_left 2; (focus ((have hX := htk2; exact S.E))); (focus (first | ((try simp only []); (repeat' (first | omega | refine And.intro ?_ ?_)); done))); (focus (first | omega | fail)))
   ·have hii : i = ms.length := by omega
    subst hii
    have hdt : decide (ms.length < ms.length) = false := by simp
    have hr1 : ms.map xBH.ab = xCF chs part win (Gs.map PG.ab) := by unfold xCF; rw [if_pos hst, hab, hma]; unfold xDH; rw [houts]
    have hr2 : G2.map PG.ab = xB5 chs part win (Gs.map PG.ab) := by
     unfold xB5; rw [if_pos hst, hab, ha2, ha1, List.take_of_length_le (by simp), hma]; unfold xDH; rw [houts]
    rw [List.take_length]
    have hX := hdt; repeat' (first | refine S.x ?_ | fail)
    all_goals
     apply Tr.fin hK ⟨G2, so, ms, hr1, xDG hv2 S.o, hp2, hr2, rfl, rfl⟩
     exact S.E
 ·have hst : ¬ xHL (Gs.map PG.ab) part := fun h => hin ⟨h.1, by have := h.2; rwa [xFw] at this⟩
  have hf1 : xCF chs part win (Gs.map PG.ab) = [] := if_neg hst
  have hf2 : xB5 chs part win (Gs.map PG.ab) = Gs.map PG.ab := if_neg hst
  refine S.I fun u => ?_
  repeat' (first | refine S.x ?_ | refine S.y ?_ ?_ | intro hb | fail)
  all_goals
   refine Tr.nilSl (α := xBH) ?_
   apply Tr.fin hK ⟨Gs, ⟨none, 0, 0⟩, [], by rw [hf1]; rfl, xDG hv S.o, rfl, hf2.symm, rfl, rfl⟩
   exact S.E
end
theorem xFq {α : Type} {l : List α} {n : Int} {p : α → Bool} (h : xBZ l n p = true) : (l.length : Int) ≤ n ∧ ∀ x ∈ l, p x = true := by
 unfold xBZ at h
 rw [Bool.and_eq_true, List.all_eq_true] at h
 exact ⟨of_decide_eq_true h.1, h.2⟩
theorem xEE {p : Prop} [Decidable p] {a b : Int} (ha : a ≠ 0) (h : (if p then a else b) = 0) : ¬ p ∧ b = 0 := by
 split at h
 ·exact absurd h ha
 ·exact ⟨by assumption, h⟩
theorem xCz {p : Prop} [Decidable p] {a b : Int × Int} (ha : p → a.1 ≠ 0) (h : (if p then a else b).1 = 0) : ¬ p ∧ b.1 = 0 := by
 split at h
 ·rename_i hp; exact absurd h (ha hp)
 ·exact ⟨by assumption, h⟩
structure xLE (p : YF) : Prop where
 r : ∀ x ∈ p.regions.d, ∃ a, xD5 x a = true
 pn : p.procs.d ≠ []
 pr : (p.procs.d.length : Int) ≤ 8 ∧ ∀ x ∈ p.procs.d, xDb x = true
 o : (p.ports.d.length : Int) ≤ 8 ∧ ∀ x ∈ p.ports.d, xDa x = true
 b : xIi p = true
 t : xDK p = true
theorem xFA {p : YF} (h : xDf p = 0) : xLE p := by
 unfold xDf at h
 obtain ⟨h1, h⟩ := xEE (by decide) h
 obtain ⟨h2, h⟩ := xEE (by decide) h
 obtain ⟨h3, h⟩ := xEE (by decide) h
 obtain ⟨h4, h⟩ := xEE (by decide) h
 obtain ⟨h5, h⟩ := xEE (by decide) h
 simp only [not_or, Bool.not_eq_false] at h1 h2 h3 h4 h5
 refine ⟨?_, ?_, xFq h2.2, xFq h3, h4, h5⟩
 ·unfold rgB at h1
  rw [Bool.and_eq_true, decide_eq_true_eq, decide_eq_true_eq] at h1
  exact xC1 (Int.le_refl 0) (Int.not_le.2 h1.2)
 ·intro hn
  exact h2.1 (by rw [hn]; rfl)
theorem xFl {p : YF} (h : xDf p = 0) : xkj p := by
 have ho := xFA h
 have hb := ho.b
 have ht := ho.t
 unfold xIi at hb
 unfold xDK at ht
 simp only [Bool.and_eq_true] at hb ht
 obtain ⟨b1, b2, b3, b4⟩ := hb
 refine ⟨fun x hx => ?_, ?_, by have := ho.pr.1; omega, fun x hx => ?_, fun x hx => ?_, ⟨fun x hx => ?_, fun x hx => ?_⟩, (xB4 ht.1).1, (xB4 ht.1).2⟩
 ·obtain ⟨a, ha⟩ := ho.r x hx
  unfold xD5 at ha
  rw [Bool.and_eq_true] at ha
  exact xB4 ha.1
 ·have := ho.pn
  cases hd : p.procs.d with
  | nil => exact absurd hd this
  | cons a l => simp
 ·have := ho.pr.2 x hx
  unfold xDb at this
  simp only [Bool.and_eq_true] at this
  exact (xB4 this.2.2).2
 ·have := ho.o.2 x hx
  unfold xDa at this
  split at this
  ·simp only [Bool.and_eq_true] at this
   exact ⟨(xB4 this.1).2, (xB4 this.2).2⟩
  ·simp only [Bool.and_eq_true, decide_eq_true_eq] at this
   exact ⟨(xB4 this.1).2, by omega⟩
 ·have := (xFq b3).2 x hx
  unfold xDX at this
  simp only [Bool.and_eq_true] at this
  exact ⟨(xB4 this.1).2, (xB4 this.2).2⟩
 ·exact (xB4 ((xFq b4).2 x hx)).2
structure xDC (c : xs2) : Prop where
 n1 : 1 ≤ c.parts.d.length
 n8 : c.parts.d.length ≤ 8
 p : ∀ k : Int, 0 ≤ k → k < c.parts.d.length → xDf (ix c.parts.d k) = 0
 pw : (xCy c.levels.d c.naps.d c.pow).1 = 0
 ch : (c.chans.d.length : Int) ≤ 16
 m1 : 1 ≤ c.modes.d.length
 m4 : c.modes.d.length ≤ 4
 m : ∀ k : Int, 0 ≤ k → k < c.modes.d.length → xDc c k = 0
theorem xHp {c : xs2} (h : (xB8 c).1 = 0) : xDC c := by
 unfold xB8 at h
 obtain ⟨h1, h⟩ := xCz (fun _ => by decide) h
 obtain ⟨h2, h⟩ := xCz id h
 obtain ⟨h3, h⟩ := xCz id h
 obtain ⟨h4, h⟩ := xCz id h
 obtain ⟨h5, h⟩ := xCz id h
 simp only [Classical.not_not, Bool.not_eq_false] at h1 h2 h3 h4 h5
 have h1' := xB4 h1
 unfold xDE at h4
 obtain ⟨h4', _⟩ := xCz (fun _ => by decide) h4
 unfold xDD at h5
 obtain ⟨h6, h7⟩ := xCz (fun _ => by decide) h5
 simp only [Bool.not_eq_false] at h6
 have h6' := xB4 h6
 refine ⟨by omega, by omega, fun k h0 hk => ?_, h3, by omega, by omega, by omega, fun k h0 hk => ?_⟩
 ·have := xDr h2 k.toNat (Nat.zero_le _) S.o
  rwa [Int.toNat_of_nonneg h0] at this
 ·have := xDr h7 k.toNat (Nat.zero_le _) S.o
  rwa [Int.toNat_of_nonneg h0] at this
theorem xHd {c : xs2} {k : Int} (hl : c.parts.d.length ≤ 8) (h : xDc c k = 0) : (1 ≤ (ix c.modes.d k).frame ∧ (ix c.modes.d k).frame ≤ 1000000000) ∧ (ix c.modes.d k).wins.d.length ≤ 16 ∧ ∀ x ∈ (ix c.modes.d k).wins.d, 0 ≤ x.part ∧ x.part < c.parts.d.length := by
 unfold xDc at h
 obtain ⟨h1, h⟩ := xEE (by decide) h
 obtain ⟨h2, h⟩ := xEE (by decide) h
 simp only [not_or, Bool.not_eq_false] at h2
 obtain ⟨a, b, d⟩ := h2
 refine ⟨xB4 a, by omega, fun x hx => ?_⟩
 obtain ⟨y, hy⟩ := xC1 (Int.le_refl 0) d x hx
 unfold xCR at hy
 rw [Bool.and_eq_true] at hy
 have h3 := xB4 hy.1
 have hw : IntKind.i64.wrap ((c.parts.d.length : Int) - 1) = (c.parts.d.length : Int) - 1 := Ye S.o S.o
 rw [hw] at h3
 omega
theorem xHh {c : xs2} (h : xDC c) : xJ3 c := ⟨fun m hm => by
 obtain ⟨k, hk, rfl⟩ := List.mem_iff_getElem.1 hm
 have e : c.modes.d[k] = ix c.modes.d (k : Int) := by simp [ix, hk]
 rw [e]
 exact (xHd h.n8 (h.m (k : Int) S.o S.o)).2.1⟩
