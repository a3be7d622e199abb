import Derived.Test.YtkapfpliiaegfaaGreatZ05
namespace Go.Wk
open Go
section
variable {P : Program} {σ σ' : CS} {V V' : Vl} {F : List Xc} {X : WP} {pl : Nat → Nat → Xj} {fl : Nat}
theorem Tr.splitH {a b : CS} (ha : ∀ k x, a.h.get k = some x → ∃ y, σ.h.get k = some y ∧ CB.eq (fun k => k) x y = true) (hb : ∀ k x, b.h.get k = some x → σ.h.get k = some x) (hd : ∀ k x, a.h.get k = some x → b.h.get k = none) (h : Tr (xMp P a V :: xMp P b V :: F) X) : Tr (xMp P σ V :: F) X := fun w hw => by
  obtain ⟨R, h1, S, h2, ⟨h3, h4⟩, h5⟩ := hw
  refine h w ⟨R, h1, fun x => ∃ k y, a.h.get k = some y ∧ x = V.β k, fun x hx => ?_, ⟨fun k x hk => ⟨⟨k, x, hk, rfl⟩, ?_⟩, fun k k' x x' hk hk' he => ?_⟩, fun x => S x ∧ ¬ ∃ k y, a.h.get k = some y ∧ x = V.β k, fun x hx => ⟨(h2 x hx.1).1, fun hh => hh.elim (h2 x hx.1).2 hx.2⟩, ⟨fun k x hk => ?_, fun k k' x x' hk hk' he => h4 _ _ _ _ (hb _ _ hk) (hb _ _ hk') he⟩, h5.weaken fun x hx => ?_⟩
  · obtain ⟨k, y, hk, rfl⟩ := hx
    obtain ⟨z, hz, _⟩ := ha k y hk
    exact h2 _ (h3 k z hz).1
  · obtain ⟨y, hy, e⟩ := ha k x hk
    obtain ⟨_, o, c, d⟩ := h3 k y hy
    exact ⟨o, c, CB.eq_spec (ρ := fun k => k) e d⟩
  · obtain ⟨y, hy, _⟩ := ha k x hk
    obtain ⟨y', hy', _⟩ := ha k' x' hk'
    exact h4 _ _ _ _ hy hy' he
  · obtain ⟨s, o, c, d⟩ := h3 k x (hb k x hk)
    refine ⟨⟨s, ?_⟩, o, c, d⟩
    rintro ⟨k', y, hk', e⟩
    obtain ⟨z, hz, _⟩ := ha k' y hk'
    have := h4 _ _ _ _ (hb k x hk) hz e
    subst this
    rw [hd _ _ hk'] at hk; cases hk
  · rcases hx with (hx | ⟨k, y, hk, rfl⟩) | hx
    · exact .inl hx
    · obtain ⟨z, hz, _⟩ := ha k y hk
      exact .inr (h3 k z hz).1
    · exact .inr hx.1
theorem Tr.joinH {a b : CS} (hs : ∀ k x, σ.h.get k = some x → a.h.get k = some x ∨ b.h.get k = some x) (h : Tr (xMp P σ V :: F) X) : Tr (xMp P a V :: xMp P b V :: F) X := fun w hw => by
  obtain ⟨R, h1, S1, h2, ⟨h3, h4⟩, S2, h5, ⟨h6, h7⟩, h8⟩ := hw
  refine h w ⟨R, h1, fun x => S1 x ∨ S2 x, fun x hx => hx.elim (h2 x) (fun hx => ⟨(h5 x hx).1, fun hh => (h5 x hx).2 (.inl hh)⟩), ⟨fun k x hk => ?_, fun k k' x x' hk hk' he => ?_⟩, h8.weaken fun x hx => ?_⟩
  · rcases hs k x hk with hk | hk
    · obtain ⟨s, o, c, d⟩ := h3 k x hk
      exact ⟨.inl s, o, c, d⟩
    · obtain ⟨s, o, c, d⟩ := h6 k x hk
      exact ⟨.inr s, o, c, d⟩
  · rcases hs k x hk with hk | hk <;> rcases hs k' x' hk' with hk' | hk'
    · exact h4 _ _ _ _ hk hk' he
    · exact absurd (.inr (he ▸ (h3 k x hk).1)) (h5 _ (h6 k' x' hk').1).2
    · exact absurd (.inr (he ▸ (h3 k' x' hk').1)) (h5 _ (h6 k x hk).1).2
    · exact h7 _ _ _ _ hk hk' he
  · rcases hx with hx | hx | hx
    · exact .inl (.inl hx)
    · exact .inl (.inr hx)
    · exact .inr hx
theorem Tr.subH {a : CS} (ha : ∀ k x, a.h.get k = some x → ∃ y, σ.h.get k = some y ∧ CB.eq (fun k => k) x y = true) (h : Tr (xMp P a V :: F) X) : Tr (xMp P σ V :: F) X :=
  Tr.splitH (b := ⟨0, .em⟩) ha (fun k x hk => by rw [show (⟨0, .em⟩ : CS).h.get k = none from Tri.get_em k] at hk; cases hk) (fun k x _ => Tri.get_em k) (Tr.perm (List.Perm.swap _ _ _) fun w hw => by
    obtain ⟨R, h1, S, h2, _, h5⟩ := hw
    exact h w ⟨R, h1, h5.weaken fun x hx => .inl hx⟩)
end
structure EnC where
  g : Nat
  as : List CV
  n : Nat
  pre : List (Nat × CB)
  v : CV
  m : Nat
  post : List (Nat × CB)
noncomputable def xMq (pre chg : List (Nat × CB)) : List (Nat × CB) := chg ++ pre.filter fun x => !chg.any fun y => Nat.beq x.1 y.1
noncomputable def trL (t : Tri CB) (l : List (Nat × CB)) : Tri CB := List.rec (motive := fun _ => Tri CB) t (fun x _ ih => Tri.put ih x.1 (some x.2)) l
noncomputable def xOe (t : Tri CB) (l : List (Nat × CB)) : Tri CB := List.rec (motive := fun _ => Tri CB) t (fun x _ ih => Tri.put ih x.1 none) l
noncomputable def Jc (t : Tri CB) (l : List (Nat × CB)) : Bool := List.rec (motive := fun _ => Bool) true (fun x _ ih => bif (match Tri.get t x.1 with
  | some b => CB.eq (fun k => k) x.2 b
  | none => false) then ih else false) l
noncomputable def ltL (n : Nat) (l : List (Nat × CB)) : Bool := List.rec (motive := fun _ => Bool) true (fun x _ ih => bif Nat.blt x.1 n then ih else false) l
mutual
noncomputable def CV.bdb (n : Nat) : CV → Bool
  | .p k _ => Nat.blt k n
  | .sl k _ _ _ => Nat.blt k n
  | .sq k _ _ => Nat.blt k n
  | .f _ a c => CV.bdbs n a && CV.bdbs n c
  | .y k => Nat.blt k n
  | .it _ v => CV.bdb n v
  | .ag l => CV.bdbs n l
  | .tp l => CV.bdbs n l
  | .m k => Nat.blt k n
  | .cn k => Nat.blt k n
  | _ => true
noncomputable def CV.bdbs (n : Nat) : List CV → Bool
  | [] => true
  | x :: r => CV.bdb n x && CV.bdbs n r
end
mutual
theorem CV.bdb_spec {n : Nat} : ∀ v : CV, CV.bdb n v = true → v.bd n
  | .b _, _ | .i _ _, _ | .s _, _ | .pn, _ | .sn, _ | .nf, _ | .ni, _ | .mn, _ | .cz, _ => by unfold CV.bd; trivial
  | .p _ _, h | .sl _ _ _ _, h | .sq _ _ _, h | .y _, h | .m _, h | .cn _, h => by
    unfold CV.bdb at h
    unfold CV.bd
    exact Nat.le_of_ble_eq_true h
  | .it _ v, h => by unfold CV.bdb at h; unfold CV.bd; exact CV.bdb_spec v h
  | .f _ a c, h => by
    unfold CV.bdb at h
    rw [Bool.and_eq_true] at h
    unfold CV.bd
    exact ⟨CV.bdbs_spec a h.1, CV.bdbs_spec c h.2⟩
  | .ag l, h | .tp l, h => by unfold CV.bdb at h; unfold CV.bd; exact CV.bdbs_spec l h
theorem CV.bdbs_spec {n : Nat} : ∀ l : List CV, CV.bdbs n l = true → CV.bds n l
  | [], _ => fun _ hx => by cases hx
  | x :: r, h => by
    unfold CV.bdbs at h
    rw [Bool.and_eq_true] at h
    intro z hz
    rcases List.mem_cons.1 hz with e | hz
    · rw [e]; exact CV.bdb_spec x h.1
    · exact CV.bdbs_spec r h.2 z hz
end
noncomputable def mpB (n : Nat) : List (Int × CV) → Bool
  | [] => true
  | x :: r => CV.bdb n x.2 && mpB n r
noncomputable def CB.bdb (n : Nat) : CB → Bool
  | .cells vs _ _ => CV.bdbs n vs
  | .lp _ => false
  | .df => true
  | .mp es => mpB n es
  | .ch _ l => CV.bdbs n l
theorem xOq {n : Nat} : ∀ {l : List (Int × CV)}, mpB n l = true → ∀ x ∈ l, x.2.bd n
  | [], _, x, hx => by cases hx
  | y :: r, h, x, hx => by
    unfold mpB at h
    rw [Bool.and_eq_true] at h
    rcases List.mem_cons.1 hx with rfl | hx
    · exact CV.bdb_spec _ h.1
    · exact xOq h.2 x hx
theorem CB.bdb_spec {n : Nat} {b : CB} (h : CB.bdb n b = true) : b.bd n := by
  cases b with
  | cells vs ty ex => exact CV.bdbs_spec vs h
  | lp r => cases h
  | df => trivial
  | mp es => exact xOq h
  | ch _ l => exact CV.bdbs_spec l h
noncomputable def bdL (n : Nat) (l : List (Nat × CB)) : Bool := List.rec (motive := fun _ => Bool) true (fun x _ ih => bif CB.bdb n x.2 then ih else false) l
theorem xQo {a b : Bool} (h : (bif a then b else false) = true) : a = true ∧ b = true := by
  cases a with
  | true => exact ⟨rfl, h⟩
  | false => cases h
theorem xMS {n : Nat} : ∀ {l : List (Nat × CB)}, ltL n l = true → ∀ x ∈ l, x.1 < n
  | [], _, x, hx => by cases hx
  | y :: r, h, x, hx => by
    obtain ⟨h1, h2⟩ := xQo (show (bif Nat.blt y.1 n then ltL n r else false) = true from h)
    rcases List.mem_cons.1 hx with rfl | hx
    · exact Nat.le_of_ble_eq_true h1
    · exact xMS h2 x hx
theorem xNE {n : Nat} : ∀ {l : List (Nat × CB)}, bdL n l = true → ∀ x ∈ l, x.2.bd n
  | [], _, x, hx => by cases hx
  | y :: r, h, x, hx => by
    obtain ⟨h1, h2⟩ := xQo (show (bif CB.bdb n y.2 then bdL n r else false) = true from h)
    rcases List.mem_cons.1 hx with rfl | hx
    · exact CB.bdb_spec h1
    · exact xNE h2 x hx
theorem xNq {t : Tri CB} : ∀ {l : List (Nat × CB)}, Jc t l = true → ∀ x ∈ l, ∃ b, Tri.get t x.1 = some b ∧ CB.eq (fun k => k) x.2 b = true
  | [], _, x, hx => by cases hx
  | y :: r, h, x, hx => by
    obtain ⟨h1, h2⟩ := xQo (show (bif (match Tri.get t y.1 with
      | some b => CB.eq (fun k => k) y.2 b
      | none => false) then Jc t r else false) = true from h)
    rcases List.mem_cons.1 hx with rfl | hx
    · split at h1
      · rename_i b hb; exact ⟨b, hb, h1⟩
      · cases h1
    · exact xNq h2 x hx
theorem xM2 : ∀ {l : List (Nat × CB)} {k : Nat} {b : CB}, (∀ x ∈ l, x.1 < Lim) → Tri.get (trL .em l) k = some b → ∃ x ∈ l, x.1 = k ∧ x.2 = b
  | [], k, b, _, h => by rw [show Tri.get (trL .em []) k = none from Tri.get_em k] at h; cases h
  | y :: r, k, b, hl, h => by
    have h : Tri.get (Tri.put (trL .em r) y.1 (some y.2)) k = some b := h
    rw [Tri.get_put (hl y (List.mem_cons_self ..))] at h
    by_cases e : k = y.1
    · rw [if_pos e] at h
      exact ⟨y, List.mem_cons_self .., e.symm, Option.some.inj h⟩
    · rw [if_neg e] at h
      obtain ⟨x, hx, h2⟩ := xM2 (fun x hx => hl x (List.mem_cons_of_mem _ hx)) h
      exact ⟨x, List.mem_cons_of_mem _ hx, h2⟩
theorem xNp {t : Tri CB} : ∀ {l : List (Nat × CB)} {k : Nat} {b : CB}, (∀ x ∈ l, x.1 < Lim) → Tri.get (trL t l) k = some b → Tri.get (trL .em l) k = some b ∨ Tri.get t k = some b
  | [], k, b, _, h => .inr h
  | y :: r, k, b, hl, h => by
    have h : Tri.get (Tri.put (trL t r) y.1 (some y.2)) k = some b := h
    rw [Tri.get_put (hl y (List.mem_cons_self ..))] at h
    show Tri.get (Tri.put (trL .em r) y.1 (some y.2)) k = some b ∨ _
    rw [Tri.get_put (hl y (List.mem_cons_self ..))]
    by_cases e : k = y.1
    · rw [if_pos e] at h ⊢; exact .inl h
    · rw [if_neg e] at h ⊢
      exact xNp (fun x hx => hl x (List.mem_cons_of_mem _ hx)) h
theorem xMT {t : Tri CB} : ∀ {l : List (Nat × CB)} {k : Nat} {b : CB}, (∀ x ∈ l, x.1 < Lim) → Tri.get (xOe t l) k = some b → Tri.get t k = some b ∧ ∀ x ∈ l, x.1 ≠ k
  | [], k, b, _, h => ⟨h, fun x hx => by cases hx⟩
  | y :: r, k, b, hl, h => by
    have h : Tri.get (Tri.put (xOe t r) y.1 none) k = some b := h
    rw [Tri.get_put (hl y (List.mem_cons_self ..))] at h
    by_cases e : k = y.1
    · rw [if_pos e] at h; cases h
    · rw [if_neg e] at h
      obtain ⟨h1, h2⟩ := xMT (fun x hx => hl x (List.mem_cons_of_mem _ hx)) h
      refine ⟨h1, fun x hx => ?_⟩
      rcases List.mem_cons.1 hx with rfl | hx
      · exact fun h => e h.symm
      · exact h2 x hx
def xMn (P : Program) (en : EnC) : Prop := (∀ x ∈ en.pre, x.1 < Lim) ∧ (∀ x ∈ en.post, x.1 < Lim) ∧ OpS P ⟨en.n, trL .em en.pre⟩ (fun V K => FnK P en.g (CV.vs V en.as).toArray K) (en.v, ⟨en.m, trL .em en.post⟩)
noncomputable def xPC (tbl : List EnC) (g : Nat) (as : List CV) (σ : CS) : Option (CV × CS) := List.rec (motive := fun _ => Option (CV × CS)) none
  (fun en _ ih => bif Nat.beq en.n σ.n then (bif Nat.beq en.g g then (bif CV.eqs en.as as then (bif Jc σ.h en.pre then some (en.v, ⟨en.m, trL (xOe σ.h en.pre) en.post⟩) else ih) else ih) else ih) else ih) tbl
theorem xMn.use {P : Program} {σ : CS} {en : EnC} (h : xMn P en) (hn : en.n = σ.n) (hp : Jc σ.h en.pre = true) (hok : σ.ok) : OpS P σ (fun V K => FnK P en.g (CV.vs V en.as).toArray K) (en.v, ⟨en.m, trL (xOe σ.h en.pre) en.post⟩) := by
  obtain ⟨h1, h2, g1, g2, g3, g4⟩ := h
  have g2 : en.n ≤ en.m := g2
  have hp := xNq hp
  have okb : CS.ok ⟨σ.n, xOe σ.h en.pre⟩ := ⟨hok.1, fun k b hk => hok.2 k b (xMT h1 hk).1⟩
  refine ⟨⟨g1.1, fun k b hk => ?_⟩, by show σ.n ≤ en.m; omega, g3, fun V F K hK => ?_⟩
  · rcases xNp h2 hk with hk | hk
    · exact g1.2 k b hk
    · have := hok.2 k b (xMT h1 hk).1
      exact ⟨by show k < en.m; omega, CB.bd_mono (by show σ.n ≤ en.m; omega) this.2⟩
  · refine Tr.splitH (a := ⟨en.n, trL .em en.pre⟩) (b := ⟨σ.n, xOe σ.h en.pre⟩) (fun k x hk => ?_) (fun k x hk => (xMT h1 hk).1) (fun k x hk => ?_) ?_
    · obtain ⟨y, hy, rfl, rfl⟩ := xM2 h1 hk
      exact hp y hy
    · obtain ⟨y, hy, rfl, rfl⟩ := xM2 h1 hk
      cases e : Tri.get (xOe σ.h en.pre) y.1 with
      | none => first | exact e | rfl
      | some z => exact absurd rfl ((xMT h1 e).2 y hy)
    · refine g4 V (xMp P ⟨σ.n, xOe σ.h en.pre⟩ V :: F) K fun V' hx => ?_
      have hx : Ext σ.n V V' := by rw [← hn]; exact hx
      refine Tr.perm (List.Perm.swap _ _ _) (Tr.extH okb hx (Tr.perm (List.Perm.swap _ _ _) (Tr.joinH (fun k x hk => ?_) (hK V' hx))))
      exact xNp h2 hk
theorem xNW {P : Program} {g : Nat} {as : List CV} {σ : CS} {r : CV × CS} (hok : σ.ok) : ∀ {tbl : List EnC}, (∀ en ∈ tbl, xMn P en) → xPC tbl g as σ = some r → OpS P σ (fun V K => FnK P g (CV.vs V as).toArray K) r
  | [], _, h => by cases h
  | en :: tl, ht, h => by
    have h : (bif Nat.beq en.n σ.n then (bif Nat.beq en.g g then (bif CV.eqs en.as as then (bif Jc σ.h en.pre then some (en.v, ⟨en.m, trL (xOe σ.h en.pre) en.post⟩) else xPC tl g as σ) else xPC tl g as σ) else xPC tl g as σ) else xPC tl g as σ) = some r := h
    have ih := xNW (as := as) (g := g) (r := r) hok fun x hx => ht x (List.mem_cons_of_mem _ hx)
    cases e1 : Nat.beq en.n σ.n with
    | false => rw [e1] at h; exact ih h
    | true =>
      rw [e1] at h
      cases e2 : Nat.beq en.g g with
      | false => rw [e2] at h; exact ih h
      | true =>
        rw [e2] at h
        cases e3 : CV.eqs en.as as with
        | false => rw [e3] at h; exact ih h
        | true =>
          rw [e3] at h
          cases e4 : Jc σ.h en.pre with
          | false => rw [e4] at h; exact ih h
          | true =>
            rw [e4] at h
            cases h
            have := (ht en (List.mem_cons_self ..)).use (Nat.eq_of_beq_eq_true e1) e4 hok
            rw [Nat.eq_of_beq_eq_true e2, CV.eqs_spec _ _ e3] at this
            exact this
noncomputable def clT (P : Program) (ok : Nat → Bool) (pl : Nat → Nat → Xj) (fl : Nat) (tbl : List EnC) : Nat → Cl
  | 0 => fun _ _ _ => none
  | n + 1 => fun f as σ => match f with
    | .f g a c => match xPC tbl g (a ++ (as ++ c)) σ with
      | some r => some r
      | none => exF P ok (clT P ok pl fl tbl n) pl fl g (a ++ (as ++ c)) σ
    | .y k => exY P ok (clT P ok pl fl tbl n) pl fl k as σ
    | _ => none
theorem xNS {P : Program} {pl : Nat → Nat → Xj} {fl : Nat} {ok : Nat → Bool} (hm : P.follows .mixedOrders = true) (hk : ∀ f, ok f = true → xML P pl f = true) {tbl : List EnC} (ht : ∀ en ∈ tbl, xMn P en) : ∀ n, ClS P (clT P ok pl fl tbl n)
  | 0 => fun _ _ _ _ h => by cases h
  | n + 1 => fun f as σ r h hok hf ha => by
    have ih := xNS (fl := fl) hm hk ht n
    unfold clT at h
    split at h
    · rename_i g a c
      unfold CV.bd at hf
      have fin : OpS P σ (fun V K => FnK P g (CV.vs V (a ++ (as ++ c))).toArray K) r := by
        split at h
        · rename_i r' hr
          cases h
          exact xNW hok ht hr
        · refine xNQ hm hk ih h hok fun z hz => ?_
          rcases List.mem_append.1 hz with hz | hz
          · exact hf.1 z hz
          · exact (List.mem_append.1 hz).elim (ha z) (hf.2 z)
      refine fin.mono fun V K w hK => ?_
      show FnK P g ((CV.vs V a).toArray ++ (CV.vs V as).toArray ++ (CV.vs V c).toArray) K w
      have e : ((CV.vs V a).toArray ++ (CV.vs V as).toArray ++ (CV.vs V c).toArray : Array Value) = (CV.vs V (a ++ (as ++ c))).toArray := by
        apply Array.ext'; simp [CV.vs_map]
      rw [e]; exact hK
    · rename_i k
      refine (xQg hm hk ih h hok ha).mono fun V K w hK => ?_
      show xcx P (V.β k) (#[] ++ (CV.vs V as).toArray) K w
      rw [Array.empty_append]; exact hK
    · cases h
noncomputable def xRE (P : Program) (ok : Nat → Bool) (pl : Nat → Nat → Xj) (fl d : Nat) (tbl : List EnC) (en : EnC) : Bool :=
  ((Nat.ble en.n 4294967295 && Nat.ble en.m 4294967295) && ((ltL en.n en.pre && bdL en.n en.pre) && ((ltL en.m en.post && bdL en.m en.post) && CV.bdbs en.n en.as))) &&
  (match exF P ok (clT P ok pl fl tbl d) pl fl en.g en.as ⟨en.n, trL .em en.pre⟩ with
  | some (v, σ) => (CV.eq en.v v && Nat.beq en.m σ.n) && Jc σ.h en.post
  | none => false)
theorem xMk {P : Program} {pl : Nat → Nat → Xj} {fl d : Nat} {ok : Nat → Bool} (hm : P.follows .mixedOrders = true) (hk : ∀ f, ok f = true → xML P pl f = true) {tbl : List EnC} (ht : ∀ en ∈ tbl, xMn P en) {en : EnC} (h : xRE P ok pl fl d tbl en = true) : xMn P en := by
  unfold xRE at h
  rw [Bool.and_eq_true] at h
  obtain ⟨h1, h2⟩ := h
  simp only [Bool.and_eq_true] at h1
  obtain ⟨⟨a1, a2⟩, ⟨a3, a4⟩, ⟨a5, a6⟩, a7⟩ := h1
  have a1 : en.n ≤ Lim := Nat.le_of_ble_eq_true a1
  have a2 : en.m ≤ Lim := Nat.le_of_ble_eq_true a2
  have l1 : ∀ x ∈ en.pre, x.1 < Lim := fun x hx => Nat.lt_of_lt_of_le (xMS a3 x hx) a1
  have l2 : ∀ x ∈ en.post, x.1 < Lim := fun x hx => Nat.lt_of_lt_of_le (xMS a5 x hx) a2
  split at h2
  · rename_i v σ hx
    simp only [Bool.and_eq_true] at h2
    obtain ⟨⟨b1, b2⟩, b3⟩ := h2
    have b1 := CV.eq_spec _ _ b1
    have b2 := Nat.eq_of_beq_eq_true b2
    have b3 := xNq b3
    have ok0 : CS.ok ⟨en.n, trL .em en.pre⟩ := ⟨a1, fun k b hk => by
      obtain ⟨y, hy, rfl, rfl⟩ := xM2 l1 hk
      exact ⟨xMS a3 y hy, xNE a4 y hy⟩⟩
    obtain ⟨g1, g2, g3, g4⟩ := xNQ hm hk (xNS hm hk ht d) hx ok0 (CV.bdbs_spec _ a7)
    refine ⟨l1, l2, ⟨a2, fun k b hk => ?_⟩, by rw [b2]; exact g2, by rw [b1, b2]; exact g3, fun V F K hK => ?_⟩
    · obtain ⟨y, hy, rfl, rfl⟩ := xM2 l2 hk
      exact ⟨xMS a5 y hy, xNE a6 y hy⟩
    · refine g4 V F K fun V' hx => ?_
      have := hK V' hx
      rw [b1] at this
      refine Tr.subH (a := ⟨en.m, trL .em en.post⟩) (fun k x hk => ?_) this
      obtain ⟨y, hy, rfl, rfl⟩ := xM2 l2 hk
      exact b3 y hy
  · cases h2
noncomputable def xPr (P : Program) (ok : Nat → Bool) (pl : Nat → Nat → Xj) (fl n : Nat) (tbl : List EnC) (f : Nat) (as : List CV) : Bool := match exF P ok (clT P ok pl fl tbl n) pl fl f as ⟨0, .em⟩ with
  | some (.b true, _) => true
  | _ => false
section
variable {P : Program} {pl : Nat → Nat → Xj} {fl : Nat}
theorem xOi {ok : Nat → Bool} (hm : P.follows .mixedOrders = true) (hk : ∀ f, ok f = true → xML P pl f = true) {n f : Nat} {as : List CV} {vs : List Value} (hn : xa1 P f = true) (hg : CV.grs as = some vs) {tbl : List EnC} (ht : ∀ en ∈ tbl, xMn P en) (h : xPr P ok pl fl n tbl f as = true) : Xb P f vs.toArray [] fun v l => v = .bool true ∧ l = [] := fun F K hK => by
  unfold xPr at h
  split at h
  · rename_i σ hx
    have hok : CS.ok ⟨0, .em⟩ := ⟨Nat.zero_le _, fun k b h => (by rw [Tri.get_em] at h; cases h)⟩
    have ha : CV.bds 0 as := by
      have gen : ∀ (l : List CV) (xs : List Value), CV.grs l = some xs → CV.bds 0 l := by
        intro l
        induction l with
        | nil => intro xs _ x hx; cases hx
        | cons y r ih =>
          intro xs h x hx
          unfold CV.grs at h
          split at h
          · rename_i u hu
            split at h
            · rename_i w hw
              rcases List.mem_cons.1 hx with rfl | hx
              · cases x <;> simp only [CV.gr, reduceCtorEq] at hu <;> (unfold CV.bd; trivial)
              · exact ih w hw x hx
            · cases h
          · cases h
      exact gen as vs hg
    obtain ⟨_, _, _, h4⟩ := xNQ (pl := pl) (fl := fl) hm hk (xNS hm hk ht n) hx hok ha
    let V : Vl := ⟨fun n => n, fun n => n, fun _ => ⟨.ready, none, 0, #[], #[], .skip, .skip, 0⟩⟩
    have := h4 V F K fun V' _ w hw => hK (.bool true) [] ⟨rfl, rfl⟩ w hw.tail
    intro w hw
    have hw' : Sat w (xMp P ⟨0, .em⟩ V :: F) := by
      obtain ⟨R, h1, h2⟩ := hw
      exact ⟨R, h1, fun _ => False, fun _ h => h.elim, ⟨fun k b h => (by rw [Tri.get_em] at h; cases h), fun k k' b b' h => (by rw [Tri.get_em] at h; cases h)⟩, Z7.weaken (fun _ hb => hb.elim id False.elim) h2⟩
    have hr := this w hw'
    have hr : FnK P f (CV.vs V as).toArray K w := hr
    rw [CV.grs_spec hg V, xuz hn] at hr
    exact hr
  · cases h
