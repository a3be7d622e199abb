import Derived.Test.YtkapfpliiaegfaaGreatZ05
namespace Go.Wk
open Go
section
variable {P : Program} {σ σ' : CS} {V V' : Vl} {F : List Xc} {v x y u : CV} {t ty : TypeId} {r : CV × CS} {k : Nat} {w : World} {e e' : CE} {E : Env} {cl : Cl} {ops : Array Oper} {d : Option Tmp} {T : Nat → Xj} {fl : Nat} {pl : Nat → Nat → Xj}
noncomputable def xP8 : List Nat → CS → Option CS
  | [], σ => some σ
  | D :: ms, σ => match σ.h.get D with
    | some .df => Tri.setK σ.h D none fun h => xP8 ms ⟨σ.n, h⟩
    | _ => none
theorem xOb : ∀ {ms : List Nat} {σ σ' : CS}, xP8 ms σ = some σ' → σ.ok → σ'.ok ∧ σ'.n = σ.n ∧ ∀ V F X, Tr (xMp P σ' V :: F) X → Tr (xMp P σ V :: F) (WH (msV V ms) X)
  | [], σ, σ', h, hok => by
    simp only [xP8, Option.some.injEq] at h
    subst h
    exact ⟨hok, rfl, fun V F X hX => hX⟩
  | D :: ms, σ, σ', h, hok => by
    unfold xP8 at h
    split at h
    · rename_i hD
      rw [Tri.setK_id] at h
      have hl := CS.ok_lt hok hD
      obtain ⟨g1, g2, g3⟩ := xOb h (CS.ok_del hok hl)
      refine ⟨g1, g2, fun V F X hX w hw => ?_⟩
      obtain ⟨o, ho, hwo⟩ := xNH hw hD hl
      unfold CB.is at ho
      subst ho
      have hp : Sat (w.putObj (V.β D) (.deferred none)) (blk (V.β D) (.deferred none) :: xMp P (σ.put D none) V :: F) := hwo.put rfl ⟨rfl, rfl, rfl⟩
      exact ⟨hwo.get, g3 V F X hX _ hp.tail⟩
    · cases h
noncomputable def xRs : Exit → Bool
  | .normal => true
  | .ret => true
  | _ => false
noncomputable def xOF (P : Program) (e : CE) (σ : CS) (rs : List ResultVar) : Option (CV × CS) := match xNG P σ e rs with
  | some l => some (xPW l, σ)
  | none => none
noncomputable def xQl (ops : Array Oper) : Option (Nat × Nat × Nat × Nat × Option Nat × Nat) := match ops.toList with
  | [⟨some d1, .select cs false, _, _, _, none⟩, ⟨some d2, .extract (.tmp d4) 0, _, _, _, none⟩, ⟨some d3, .binOp .eql _ (.tmp d5) (.const (.int .i64 0)) _, _, _, _, none⟩] => bif Nat.beq d1 d4 && Nat.beq d2 d5 then (match cs.toList with
    | [⟨.tmp c, none, t⟩] => some (d1, d2, d3, c, none, t)
    | [⟨.tmp c, some (.tmp x), t⟩] => some (d1, d2, d3, c, some x, t)
    | _ => none) else none
  | _ => none
theorem xPy {ops : Array Oper} {d1 d2 d3 c t : Nat} {x : Option Nat} (h : xQl ops = some (d1, d2, d3, c, x, t)) : ∃ ty1 ty2 ty3 ti tj p1 p2 p3 f1 f2 f3, ops = xC4 d1 d2 d3 #[⟨.tmp c, x.map .tmp, t⟩] ty1 ty2 ty3 ti tj p1 p2 p3 f1 f2 f3 := by
  unfold xQl at h
  split at h
  · rename_i ho
    obtain ⟨hc, h'⟩ := xMl h
    clear h
    rw [Bool.and_eq_true] at hc
    have e1 := Nat.eq_of_beq_eq_true hc.1
    have e2 := Nat.eq_of_beq_eq_true hc.2
    subst e1; subst e2
    have h := h'
    clear h'
    split at h
    · rename_i hcs
      cases h
      rw [xRo hcs] at ho
      exact ⟨_, _, _, _, _, _, _, _, _, _, _, by apply Array.ext'; rw [ho]; rfl⟩
    · rename_i hcs
      cases h
      rw [xRo hcs] at ho
      exact ⟨_, _, _, _, _, _, _, _, _, _, _, by apply Array.ext'; rw [ho]; rfl⟩
    · cases h
  · cases h
noncomputable def xPM {γ : Type} (e : CE) (d1 d2 d3 : Nat) (v1 v2 v3 : CV) (c : CE → Option γ) : Option γ := xNh e (some d1) v1 fun e => xNh e (some d2) v2 fun e => xNh e (some d3) v3 c
noncomputable def xP4 (P : Program) (n : Nat) (s : Nat × Nat × Nat × Nat × Option Nat × Nat) (e : CE) (σ : CS) : Option Res := match s with
  | (d1, d2, d3, ca, xa, t) => bif Nat.blt d1 n && (Nat.blt d2 n && Nat.blt d3 n) then (match xby P t with
    | some z => match ofV z with
      | some z => match e.get ca with
        | some (.cn k) => match σ.h.get k with
          | some (.ch cap l) => match xa with
            | some xa => match e.get xa with
              | some x => bif Nat.blt l.length cap then Tri.setK σ.h k (some (.ch cap (l ++ [x]))) fun h => xPM e d1 d2 d3 (.tp [.i .i64 0, .b false]) (.i .i64 0) (.b true) fun e => some (.normal, e, ⟨σ.n, h⟩)
                else xPM e d1 d2 d3 (.tp [.i .i64 (-1), .b false]) (.i .i64 (-1)) (.b false) fun e => some (.normal, e, σ)
              | none => none
            | none => match l with
              | x :: l => Tri.setK σ.h k (some (.ch cap l)) fun h => xPM e d1 d2 d3 (.tp [.i .i64 0, .b true, x]) (.i .i64 0) (.b true) fun e => some (.normal, e, ⟨σ.n, h⟩)
              | [] => xPM e d1 d2 d3 (.tp [.i .i64 (-1), .b false, z]) (.i .i64 (-1)) (.b false) fun e => some (.normal, e, σ)
          | _ => none
        | _ => none
      | none => none
    | none => none) else none
theorem xM4 {γ : Type} {e : CE} {d1 d2 d3 : Nat} {v1 v2 v3 : CV} {c : CE → Option γ} {y : γ} (h : xPM e d1 d2 d3 v1 v2 v3 c = some y) : ∃ e', c e' = some y ∧ (∀ n, CE.bd n e → v1.bd n → v2.bd n → v3.bd n → CE.bd n e') ∧ ∀ V E, xMt V e E → xMt V e' (upd (upd (upd E d1 (v1.v V)) d2 (v2.v V)) d3 (v3.v V)) := by
  unfold xPM at h
  obtain ⟨e1, h, p1⟩ := xMw h
  obtain ⟨e2, h, p2⟩ := xMw h
  obtain ⟨e3, h, p3⟩ := xMw h
  exact ⟨e3, h, fun n he h1 h2 h3 => p3.bd h3 (p2.bd h2 (p1.bd h1 he)), fun V E hE => p3.env (p2.env (p1.env hE))⟩
theorem xPU {n : Nat} {p q : CV} (h1 : p.bd n) (h2 : q.bd n) : CV.bd n (.tp [p, q]) := by
  unfold CV.bd
  intro z hz
  rcases List.mem_cons.1 hz with rfl | hz
  · exact h1
  · rw [List.mem_singleton.1 hz]; exact h2
theorem xQb {n : Nat} {p q s : CV} (h1 : p.bd n) (h2 : q.bd n) (h3 : s.bd n) : CV.bd n (.tp [p, q, s]) := by
  unfold CV.bd
  intro z hz
  rcases List.mem_cons.1 hz with rfl | hz
  · exact h1
  · rcases List.mem_cons.1 hz with rfl | hz
    · exact h2
    · rw [List.mem_singleton.1 hz]; exact h3
theorem xOX {n id : Nat} {ops : Array Oper} {s : Nat × Nat × Nat × Nat × Option Nat × Nat} {r : Res} (hs : xQl ops = some s) (h : xP4 P n s e σ = some r) (hok : σ.ok) (he : CE.bd σ.n e) : xOK P e σ r (CW P n (.region id ops false)) := by
  obtain ⟨d1, d2, d3, ca, xa, t⟩ := s
  obtain ⟨ty1, ty2, ty3, ti, tj, p1, p2, p3, f1, f2, f3, rfl⟩ := xPy hs
  simp only [xP4] at h
  obtain ⟨hd, h⟩ := xMl h
  simp only [Bool.and_eq_true] at hd
  have g1 : d1 < n := Nat.le_of_ble_eq_true hd.1
  have g2 : d2 < n := Nat.le_of_ble_eq_true hd.2.1
  have g3 : d3 < n := Nat.le_of_ble_eq_true hd.2.2
  have hu : ∀ m (b : Bool), CV.bd m (.b b) := fun m b => by unfold CV.bd; trivial
  have hi : ∀ m k (z : Int), CV.bd m (.i k z) := fun m k z => by unfold CV.bd; trivial
  split at h
  · rename_i z hz
    split at h
    · rename_i z' hz'
      obtain ⟨z1, z2⟩ := xMv hz'
      have hZ : Zer P t z := ⟨hz⟩
      split at h
      · rename_i k hk
        split at h
        · rename_i cap l hl
          have hkl := CS.ok_lt hok hl
          have hbl : CV.bds σ.n l := (hok.2 _ _ hl).2
          split at h
          · rename_i xa _
            split at h
            · rename_i x hx
              have hbx := he xa x hx
              cases hr : Nat.blt l.length cap with
              | true =>
                rw [hr, cond_true, Tri.setK_id] at h
                obtain ⟨e', h, b1, b2⟩ := xM4 h
                cases h
                have hlt : l.length < cap := Nat.le_of_ble_eq_true hr
                have hb' : CB.bd σ.n (.ch cap (l ++ [x])) := fun y hy => by
                  rcases List.mem_append.1 hy with hy | hy
                  · exact hbl y hy
                  · rw [List.mem_singleton.1 hy]; exact hbx
                refine ⟨CS.ok_put hok (Nat.le_refl _) hok.1 (hok.2 k _ hl).1 hb', b1 _ he (xPU (hi _ _ _) (hu _ _)) (hi _ _ _) (hu _ _), Nat.le_refl _, fun V F E Q hE hQ => Tr.openH hl hkl fun o ho => xOJ ho ?_⟩
                refine Tr.selSend (x := x.v V) (z := z) (hE ca _ hk) (hE xa x hx) g1 g2 g3 (fun _ => ?_) (fun h => ?_)
                · have e1 : CV.vs V l ++ [x.v V] = CV.vs V (l ++ [x]) := by rw [CV.vs_map, CV.vs_map, List.map_append]; rfl
                  rw [e1]
                  exact xN2 (P := P) fun o' ho' => Tr.backH (b := .ch cap (l ++ [x])) hkl ho' (hQ V _ (Ext.refl _ _) (b2 V E hE))
                · rw [CV.vs_len] at h; omega
              | false =>
                rw [hr, cond_false] at h
                obtain ⟨e', h, b1, b2⟩ := xM4 h
                cases h
                have hlt : ¬ l.length < cap := fun h => by rw [xO0, decide_eq_true h] at hr; cases hr
                refine ⟨hok, b1 _ he (xPU (hi _ _ _) (hu _ _)) (hi _ _ _) (hu _ _), Nat.le_refl _, fun V F E Q hE hQ => Tr.openH hl hkl fun o ho => xOJ ho ?_⟩
                refine Tr.selSend (x := x.v V) (z := z) (hE ca _ hk) (hE xa x hx) g1 g2 g3 (fun h => ?_) (fun h => ?_)
                · rw [CV.vs_len] at h; omega
                · exact xN2 (P := P) fun o' ho' => Tr.backH0 hl hkl ho' (hQ V _ (Ext.refl _ _) (b2 V E hE))
            · cases h
          · split at h
            · rename_i x l'
              rw [Tri.setK_id] at h
              obtain ⟨e', h, b1, b2⟩ := xM4 h
              cases h
              have hb' : CB.bd σ.n (.ch cap l') := fun y hy => hbl y (List.mem_cons_of_mem _ hy)
              have hbx := hbl x (List.mem_cons_self ..)
              refine ⟨CS.ok_put hok (Nat.le_refl _) hok.1 (hok.2 k _ hl).1 hb', b1 _ he (xQb (hi _ _ _) (hu _ _) (hbx)) (hi _ _ _) (hu _ _), Nat.le_refl _, fun V F E Q hE hQ => Tr.openH hl hkl fun o ho => xOJ ho ?_⟩
              refine Tr.selRecv (z := z) (hE ca _ hk) g1 g2 g3 (fun y b2' hy => ?_) (fun hy => ?_)
              · have hy : x.v V :: CV.vs V l' = y :: b2' := hy
                cases hy
                exact xN2 (P := P) fun o' ho' => Tr.backH (b := .ch cap l') hkl ho' (hQ V _ (Ext.refl _ _) (b2 V E hE))
              · cases hy
            · obtain ⟨e', h, b1, b2⟩ := xM4 h
              cases h
              refine ⟨hok, b1 _ he (xQb (hi _ _ _) (hu _ _) (z2 _)) (hi _ _ _) (hu _ _), Nat.le_refl _, fun V F E Q hE hQ => Tr.openH hl hkl fun o ho => xOJ ho ?_⟩
              refine Tr.selRecv (z := z) (hE ca _ hk) g1 g2 g3 (fun y b2' hy => by cases hy) (fun _ => ?_)
              have hq := hQ V _ (Ext.refl _ _) (b2 V E hE)
              have e1 : CV.v V (.tp [.i .i64 (-1), .b false, z']) = .tuple #[.int .i64 (-1), .bool false, z] := by rw [← z1 V]; rfl
              rw [e1] at hq
              exact xN2 (P := P) (l := []) fun o' ho' => Tr.backH0 hl hkl ho' hq
        · cases h
      · cases h
    · cases h
  · cases h
noncomputable def exQ (P : Program) (cl : Cl) (T : Nat → Xj) (n fl : Nat) : Code → CE → CS → Option Res
  | .seq a b, e, σ => match exQ P cl T n fl a e σ with
    | some (.normal, e, σ) => exQ P cl T n fl b e σ
    | r => r
  | .region id ops false, e, σ => match xQl ops with
    | some s => xP4 P n s e σ
    | none => bif Za n T (.region id ops false) && Y8 T (.region id ops false) then exW P cl T fl (.region id ops false) e σ else none
  | c, e, σ => bif Za n T c && Y8 T c then exW P cl T fl c e σ else none
theorem xQu (hm : P.follows .mixedOrders = true) (hcl : ClS P cl) {n : Nat} {c : Code} {r : Res} (h : (bif Za n T c && Y8 T c then exW P cl T fl c e σ else none) = some r) (hok : σ.ok) (he : CE.bd σ.n e) : xOK P e σ r (CW P n c) := by
  obtain ⟨hc, h⟩ := xMl h
  rw [Bool.and_eq_true] at hc
  obtain ⟨g1, g2, g3, g4⟩ := xMN hcl c e σ r h hok he
  exact ⟨g1, g2, g3, fun V F E Q hE hQ => Tr.cwW T hm hc.1 hc.2 (g4 V F E Q hE hQ)⟩
theorem xP3 (hm : P.follows .mixedOrders = true) (hcl : ClS P cl) {n : Nat} : ∀ (c : Code) (e : CE) (σ : CS) (r : Res), exQ P cl T n fl c e σ = some r → σ.ok → CE.bd σ.n e → xOK P e σ r (CW P n c) := by
  intro c
  induction c with
  | seq a b iha ihb =>
    intro e σ r h hok he
    simp only [exQ] at h
    split at h
    · rename_i e1 σ1 h1
      obtain ⟨g1, g2, g3, g4⟩ := iha e σ _ h1 hok he
      obtain ⟨k1, k2, k3, k4⟩ := ihb e1 σ1 r h g1 g2
      refine ⟨k1, k2, Nat.le_trans g3 k3, fun V F E Q hE hQ => Tr.cwSeq (g4 V F E _ hE fun V1 E1 hx1 hE1 => k4 V1 F E1 Q hE1 fun V2 E2 hx2 hE2 => hQ V2 E2 (hx1.trans hx2 g3) hE2)⟩
    · rename_i hn
      obtain ⟨g1, g2, g3, g4⟩ := iha e σ _ h hok he
      refine ⟨g1, g2, g3, fun V F E Q hE hQ => Tr.cwSeq (g4 V F E _ hE fun V1 E1 hx1 hE1 => ?_)⟩
      have hq := hQ V1 E1 hx1 hE1
      obtain ⟨x, er, σr⟩ := r
      cases x with
      | normal => exact absurd h (hn _ _)
      | _ => exact hq
  | region id ops d =>
    intro e σ r h hok he
    cases d with
    | true => exact xQu hm hcl h hok he
    | false =>
      simp only [exQ] at h
      split at h
      · rename_i s hs
        exact xOX hs h hok he
      · exact xQu hm hcl h hok he
  | _ =>
    intro e σ r h hok he
    exact xQu hm hcl h hok he
noncomputable def xNs : Code → Bool
  | .seq a b => xNs a || xNs b
  | .region _ ops false => (xQl ops).isSome
  | _ => false
noncomputable def xNR : Code → Bool
  | .seq a b => xNR a || xNR b
  | .block _ b => xNR b
  | .rangeFunc _ _ _ _ => true
  | _ => false
noncomputable def xM5 (n : Nat) (T : Nat → Xj) : Code → Bool
  | .seq a b => xM5 n T a && xM5 n T b
  | .block _ b => xM5 n T b
  | .rangeFunc _ ps a b => ps.toList.all (fun p => Nat.blt p n) && ((Za n T a && Y8 T a) && (Za n T b && Y8 T b))
  | _ => true
theorem xO5 {n i : Nat} {c d : Code} (h : xM5 n T c = true) (hs : xOH i c = some d) : xM5 n T d = true := by
  unfold xOH at hs
  split at hs
  · cases hs; simp only [xM5, Bool.and_eq_true] at h; exact h.1
  · cases hs; simp only [xM5, Bool.and_eq_true] at h; exact h.2
  · cases hs; exact h
  · cases hs
theorem xNV {n : Nat} : ∀ {p : List Nat} {c d : Code}, xM5 n T c = true → xNA c p = some d → xM5 n T d = true
  | [], c, d, h, hs => by
    unfold xNA at hs
    simp only [List.foldl_nil, Option.some.injEq] at hs
    subst hs; exact h
  | i :: p, c, d, h, hs => by
    unfold xNA at hs
    simp only [List.foldl_cons] at hs
    have hn : ∀ q : List Nat, q.foldl xQQ none = none := fun q => by
      induction q with
      | nil => rfl
      | cons _ _ ih => exact ih
    cases hi : xOH i c with
    | none =>
      have : xQQ (some c) i = none := hi
      rw [this, hn] at hs; cases hs
    | some c' =>
      have : xQQ (some c) i = some c' := hi
      rw [this] at hs
      exact xNV (p := p) (c := c') (xO5 h hi) hs
noncomputable def xML (P : Program) (pl : Nat → Nat → Xj) (f : Nat) : Bool := match P.funcs[f]? with
  | some fn => match fn.body with
    | some c => xa1 P f && (xNs c || (bif xNR c then xaP fn.ntmps (pl f) c && xM5 fn.ntmps (pl f) c else xDS fn.ntmps (pl f) c))
    | none => false
  | none => false
noncomputable def exF (P : Program) (ok : Nat → Bool) (cl : Cl) (pl : Nat → Nat → Xj) (fl f : Nat) (as : List CV) (σ : CS) : Option (CV × CS) := match P.funcs[f]? with
  | some fn => match fn.body with
    | some c => bif ok f && Nat.ble as.length fn.ntmps then (bif xNs c then xOV 0 as .em fun e => match exQ P cl (pl f) fn.ntmps fl c e σ with
        | some (x, e, σ) => bif xRs x then xOF P e σ fn.results.toList else none
        | none => none
      else bif xNR c then xOV 0 as .em fun e => match exM P cl (pl f) f fn.ntmps fl [] c [] e σ with
        | some (x, ms, e, σ) => bif xRs x then (match xP8 ms σ with
          | some σ => xOF P e σ fn.results.toList
          | none => none) else none
        | none => none
      else xOV 0 as .em fun e => match exG P cl (pl f) fl c [] e σ with
        | some (x, ds, e, σ) => bif xRs x then (match xNN P cl pl fl ds σ with
          | some σ => xOF P e σ fn.results.toList
          | none => none) else none
        | none => none) else none
    | none => match CV.grs as with
      | some l => match xMV P (callFunc f l.toArray) with
        | some (.value z) => match ofV z with
          | some z => some (z, σ)
          | none => none
        | _ => none
      | none => none
  | none => none
theorem xNb {rs : List ResultVar} (h : xOF P e σ rs = some r) (hok : σ.ok) (he : CE.bd σ.n e) : r.2 = σ ∧ r.1.bd σ.n ∧ ∀ V F E (K : Value → WP), xMt V e E → (∀ V', Ext σ.n V V' → Tr (xMp P σ V' :: F) (K (r.1.v V'))) → Tr (xMp P σ V :: F) (Ya P E rs fun vs => K (one vs)) := by
  unfold xOF at h
  split at h
  · rename_i l hl
    cases h
    obtain ⟨g1, g2⟩ := xM9 hok he hl
    refine ⟨rfl, xQE g1, fun V F E K hE hK => g2 V F E _ hE fun V' hx _ => ?_⟩
    rw [← xRj]; exact hK V' hx
  · cases h
theorem xQw {rs : Array ResultVar} : rs = rs.toList.toArray := by apply Array.ext'; rfl
theorem xNQ {ok : Nat → Bool} (hm : P.follows .mixedOrders = true) (hk : ∀ f, ok f = true → xML P pl f = true) (hcl : ClS P cl) {f : Nat} {as : List CV} (h : exF P ok cl pl fl f as σ = some r) (hok : σ.ok) (ha : CV.bds σ.n as) : OpS P σ (fun V K => FnK P f (CV.vs V as).toArray K) r := by
  unfold exF at h
  split at h
  · rename_i fn hf
    split at h
    · rename_i c hc
      obtain ⟨hq, h⟩ := xMl h
      rw [Bool.and_eq_true] at hq
      have hlen := Nat.le_of_ble_eq_true hq.2
      have hq1 := hk f hq.1
      unfold xML at hq1
      rw [hf] at hq1
      simp only [hc, Bool.and_eq_true, Bool.or_eq_true] at hq1
      obtain ⟨hfb, hq1⟩ := hq1
      cases hS : xNs c with
      | true =>
          rw [hS, cond_true] at h
          obtain ⟨e, h, he, hE⟩ := xMK h ha xOg
          split at h
          · rename_i x e1 σ1 h1
            obtain ⟨hx, h⟩ := xMl h
            obtain ⟨g1, g2, g3, g4⟩ := xP3 hm hcl c e σ _ h1 hok he
            obtain ⟨hr, m1, m2⟩ := xNb h g1 g2
            refine ⟨by rw [hr]; exact g1, by rw [hr]; exact g3, by rw [hr]; exact m1, fun V F K hK w hw => ?_⟩
            show FnK P f _ K w
            rw [xuz hfb]
            refine Tr.enterC hf hc xQw (by rw [CV.vs_len]; exact hlen) (fun u => ?_) w hw
            refine g4 V F _ _ (hE V u xNC) fun V1 E1 hx1 hE1 => ?_
            have fin : Tr (xMp P σ1 V1 :: F) (Ya P E1 fn.results.toList fun vs => K (one vs)) := m2 V1 F E1 K hE1 fun V3 hx3 => by
              have := hK V3 (hx1.trans hx3 g3)
              rw [hr] at this; exact this
            cases x <;> first | exact fin | cases hx
          · cases h
      | false =>
      rw [hS, cond_false] at h
      have hq1 := hq1.resolve_left (by rw [hS]; exact Bool.false_ne_true)
      cases hR : xNR c with
      | false =>
        rw [hR, cond_false] at h hq1
        have hG := hq1
        obtain ⟨e, h, he, hE⟩ := xMK h ha xOg
        split at h
        · rename_i x ds e1 σ1 h1
          obtain ⟨hx, h⟩ := xMl h
          obtain ⟨g1, g2, g3, g4, g5⟩ := xQt hcl c [] e σ _ h1 hok he (fun d hd => by cases hd)
          split at h
          · rename_i σ2 h2
            obtain ⟨k1, k2, k3⟩ := xNM hcl h2 g1 g3
            have he2 : CE.bd σ2.n e1 := CE.bd_mono k2 g2
            obtain ⟨hr, m1, m2⟩ := xNb h k1 he2
            refine ⟨by rw [hr]; exact k1, by rw [hr]; exact Nat.le_trans g4 k2, by rw [hr]; exact m1, fun V F K hK w hw => ?_⟩
            show FnK P f _ K w
            rw [xuz hfb]
            refine Tr.enterG (T := pl f) hm hf hc hG xQw (by rw [CV.vs_len]; exact hlen) (fun u => ?_) w hw
            refine g5 V F _ _ (hE V u xNC) fun V1 E1 hx1 hE1 => ?_
            have fin : Tr (xMp P σ1 V1 :: F) (xD8 P (dsV V1 ds) (Ya P E1 fn.results.toList fun vs => K (one vs))) := k3 V1 F _ fun V2 hx2 => m2 V2 F E1 K (hE1.ext g2 hx2) fun V3 hx3 => by
              have := hK V3 ((hx1.trans hx2 g4).trans hx3 (Nat.le_trans g4 k2))
              rw [hr] at this; exact this
            cases x <;> first | exact fin | cases hx
          · cases h
        · cases h
      | true =>
        rw [hR, cond_true] at h hq1
        rw [Bool.and_eq_true] at hq1
        have hM := hq1.1
        obtain ⟨e, h, he, hE⟩ := xMK h ha xOg
        split at h
        · rename_i x ms e1 σ1 h1
          obtain ⟨hx, h⟩ := xMl h
          obtain ⟨g1, g2, g3, g4, g5⟩ := xQr hcl hf hc c [] rfl [] e σ _ h1 hok he (fun d hd => by cases hd)
          split at h
          · rename_i σ2 h2
            obtain ⟨k1, k2, k3⟩ := xOb (P := P) h2 g1
            have he2 : CE.bd σ2.n e1 := by rw [k2]; exact g2
            obtain ⟨hr, m1, m2⟩ := xNb h k1 he2
            refine ⟨by rw [hr]; exact k1, by rw [hr, k2]; exact g4, by rw [hr]; exact m1, fun V F K hK w hw => ?_⟩
            show FnK P f _ K w
            rw [xuz hfb]
            refine Tr.enterM (T := pl f) hm hf hc hM xQw (by rw [CV.vs_len]; exact hlen) (fun u => ?_) w hw
            refine g5 V F _ _ (hE V u xNC) fun V1 E1 hx1 hE1 => ?_
            have fin : Tr (xMp P σ1 V1 :: F) (WH (msV V1 ms) (Ya P E1 fn.results.toList fun vs => K (one vs))) := k3 V1 F _ (m2 V1 F E1 K hE1 fun V3 hx3 => by
              have := hK V3 (hx1.trans (by rw [k2] at hx3; exact hx3) g4)
              rw [hr] at this; exact this)
            cases x <;> first | exact fin | cases hx
          · cases h
        · cases h
    · rename_i hc
      split at h
      · rename_i l hl
        split at h
        · rename_i z hz
          split at h
          · rename_i z' hz'
            cases h
            obtain ⟨g1, g2⟩ := xMv hz'
            refine OpS.val hok (g2 _) fun V K w hK => ?_
            show xkd P K ((callFunc f (CV.vs V as).toArray).run P w)
            rw [CV.grs_spec hl V, xMP hz w, ← g1 V]
            exact hK
          · cases h
        · cases h
      · cases h
  · cases h
noncomputable def xQK {γ : Type} : List (Nat × CV) → CE → (CE → Option γ) → Option γ
  | [], e, c => c e
  | (p, v) :: r, e, c => xNh e (some p) v fun e => xQK r e c
theorem xN5 {γ : Type} {c : CE → Option γ} {y : γ} {n : Nat} : ∀ {l : List (Nat × CV)} {e : CE}, xQK l e c = some y → (∀ p ∈ l, p.2.bd n) → CE.bd n e →
    ∃ e', c e' = some y ∧ CE.bd n e' ∧ ∀ V E, xMt V e E → xMt V e' (xd0 E (l.map fun p => (p.1, p.2.v V)))
  | [], e, h, _, he => ⟨e, h, he, fun V E hE => hE⟩
  | (p, v) :: r, e, h, hb, he => by
    unfold xQK at h
    obtain ⟨e1, h, hp⟩ := xMw h
    obtain ⟨e', g1, g2, g3⟩ := xN5 h (fun x hx => hb x (List.mem_cons_of_mem _ hx)) (hp.bd (hb (p, v) (List.mem_cons_self ..)) he)
    exact ⟨e', g1, g2, fun V E hE => g3 V _ (hp.env hE)⟩
noncomputable def xRM : Exit → Option (Option Code)
  | .normal => some none
  | .ret => some (some .ret)
  | .exit id => some (some (.exit id))
  | .goto l => some (some (.goto l))
  | _ => none
noncomputable def xRf (P : Program) (f n : Nat) : Bool := match P.funcs[f]? with
  | some fn => Nat.beq fn.ntmps n && match fn.body with
    | some c => xNR c && !xNs c
    | none => false
  | none => false
theorem xRO {f n : Nat} {p : List Nat} {ps : Array Tmp} {asg bo : Code} (hc : xML P pl f = true) (hr : xRf P f n = true) (h : xPJ P f p = some (ps, asg, bo)) : (ps.toList.all (fun p => Nat.blt p n) && ((Za n (pl f) asg && Y8 (pl f) asg) && (Za n (pl f) bo && Y8 (pl f) bo))) = true := by
  unfold xPJ at h
  unfold xRf at hr
  unfold xML at hc
  cases hf : P.funcs[f]? with
  | none => rw [hf] at h; cases h
  | some fn =>
    rw [hf] at h hr hc
    simp only at h hr hc
    cases hb : fn.body with
    | none => rw [hb] at h; cases h
    | some c =>
      rw [hb] at h hr hc
      simp only [Bool.and_eq_true, Bool.not_eq_true'] at h hr hc
      obtain ⟨hn, hR, hS⟩ := hr
      have hn := Nat.eq_of_beq_eq_true hn
      subst hn
      rw [hS, hR, cond_true, Bool.false_or, Bool.and_eq_true] at hc
      cases hs : xNA c p with
      | none => rw [hs] at h; cases h
      | some d =>
        rw [hs] at h
        cases d <;> first | cases h | skip
        exact xNV hc.2.2 hs
noncomputable def exY (P : Program) (ok : Nat → Bool) (cl : Cl) (pl : Nat → Nat → Xj) (fl k : Nat) (as : List CV) (σ : CS) : Option (CV × CS) := match σ.h.get k with
  | some (.lp r) => match xPJ P r.pf r.pa with
    | some (ps, asg, bo) => bif (decide (r.st = .ready) && Nat.beq as.length ps.size) && (ok r.pf && xRf P r.pf r.n) then
      xQK (ps.toList.zip as) r.e fun e => match exW P cl (pl r.pf) fl asg e σ with
        | some (.normal, e, σ) => match σ.h.get k with
          | some (.lp r1) => bif decide (r1.st = .ready) then Tri.setK σ.h k (some (.lp { r1 with st := .busy })) fun h => match exW P cl (pl r.pf) fl bo e ⟨σ.n, h⟩ with
            | some (x, _, σ) => match σ.h.get k with
              | some (.lp r3) => match xRM x with
                | some pe => Tri.setK σ.h k (some (.lp { r3 with st := if pe.isNone then .ready else .done, pe := pe })) fun h => some (.b pe.isNone, ⟨σ.n, h⟩)
                | none => none
              | _ => none
            | none => none else none
          | _ => none
        | _ => none else none
    | none => none
  | _ => none
theorem xQg {ok : Nat → Bool} (hm : P.follows .mixedOrders = true) (hk : ∀ f, ok f = true → xML P pl f = true) (hcl : ClS P cl) {as : List CV} (h : exY P ok cl pl fl k as σ = some r) (hok : σ.ok) (ha : CV.bds σ.n as) : OpS P σ (fun V K => xcx P (V.β k) (CV.vs V as).toArray K) r := by
  unfold exY at h
  split at h
  · rename_i q hq
    split at h
    case h_2 => cases h
    rename_i ps asg bo hrf
    obtain ⟨hc, h⟩ := xMl h
    simp only [Bool.and_eq_true] at hc
    obtain ⟨⟨c1, c2⟩, b1, b2⟩ := hc
    have c0 := xRO (hk _ b1) b2 hrf
    simp only [Bool.and_eq_true] at c0
    obtain ⟨c3, ⟨c4, c5⟩, c6, c7⟩ := c0
    have c1 := of_decide_eq_true c1
    have c2 := Nat.eq_of_beq_eq_true c2
    have hkn := (hok.2 k _ hq).1
    have heq : CE.bd σ.n q.e := (hok.2 k _ hq).2
    obtain ⟨e, h, he, hE⟩ := xN5 h (fun p hp => ha p.2 (List.of_mem_zip hp).2) heq
    split at h
    · rename_i e1 σ1 h1
      obtain ⟨g1, g2, g3, g4⟩ := xMN hcl _ e σ _ h1 hok he
      split at h
      · rename_i q1 hq1
        obtain ⟨d1, h⟩ := xMl h
        have d1 := of_decide_eq_true d1
        have hl1 := CS.ok_lt g1 hq1
        rw [Tri.setK_id] at h
        have hb1 : CB.bd σ1.n (.lp { q1 with st := .busy }) := (g1.2 k _ hq1).2
        have hok2 : (σ1.put k (some (.lp { q1 with st := .busy }))).ok := CS.ok_put g1 (Nat.le_refl _) g1.1 (g1.2 k _ hq1).1 hb1
        split at h
        · rename_i x e3 σ3 h3
          obtain ⟨k1, k2, k3, k4⟩ := xMN hcl _ e1 _ _ h3 hok2 g2
          have k3 : σ1.n ≤ σ3.n := k3
          split at h
          · rename_i q3 hq3
            split at h
            · rename_i pe hpe
              rw [Tri.setK_id] at h
              cases h
              have hl3 := CS.ok_lt k1 hq3
              have hb3 : CB.bd σ3.n (.lp { q3 with st := if pe.isNone then .ready else .done, pe := pe }) := (k1.2 k _ hq3).2
              refine ⟨CS.ok_put k1 (Nat.le_refl _) k1.1 (k1.2 k _ hq3).1 hb3, Nat.le_trans g3 k3, by unfold CV.bd; trivial, fun V F K hK w hw => ?_⟩
              obtain ⟨o, hh, hob⟩ := xPw hw hq
              unfold CB.is at hob
              obtain ⟨rfl, p0, p4, p5⟩ := hob
              rw [hrf] at p0
              simp only [Option.some.injEq, Prod.mk.injEq] at p0
              obtain ⟨p1, p2, p3⟩ := p0
              have p1 := p1.symm
              have p2 := p2.symm
              have p3 := p3.symm
              show xcx P (V.β k) (CV.vs V as).toArray K w
              refine xoM (n := q.n) (T := pl q.pf) hm hh (by rw [List.size_toArray, CV.vs_len, c2]; show _ = (V.lp k).params.size; rw [p1]) p4 (fun t => rfl) ?_ ?_ ?_ ?_ ?_ ?_
              · show ∀ p ∈ (V.lp k).params.toList, p < q.n
                rw [p1]
                intro p hp
                have := List.all_eq_true.1 c3 p hp
                exact Nat.le_of_ble_eq_true this
              · show Za _ _ (V.lp k).assign = true
                rw [p2]; exact c4
              · show Y8 _ (V.lp k).assign = true
                rw [p2]; exact c5
              · show Za _ _ (V.lp k).body = true
                rw [p3]; exact c6
              · show Y8 _ (V.lp k).body = true
                rw [p3]; exact c7
              · show W P (pl q.pf) (V.lp k).assign _ (xd0 (fun t => (V.lp k).tmps.getD t undef) ((V.lp k).params.toList.zip (CV.vs V as).toArray.toList)) w
                rw [p1, p2]
                have hz : ps.toList.zip (CV.vs V as).toArray.toList = (ps.toList.zip as).map fun p => (p.1, p.2.v V) := by
                  rw [List.toList_toArray, CV.vs_map]
                  rw [List.zip_map_right]
                  rfl
                rw [hz]
                refine g4 V F _ _ (hE V _ p5) (fun V1 E1 hx1 hE1 w1 hw1 => ?_) w hw
                obtain ⟨o1, ho1, hwo1⟩ := xNH hw1 hq1 hl1
                unfold CB.is at ho1
                obtain ⟨rfl, s1, s4, s5⟩ := ho1
                have hβ1 : V1.β k = V.β k := (hx1 k hkn).1
                have hlp1 : V1.lp k = V.lp k := (hx1 k hkn).2.2
                rw [hβ1] at hwo1
                refine ⟨_, run_beginRound hwo1.get d1, ?_⟩
                show W P (pl q.pf) (V.lp k).body _ E1 _
                rw [p3]
                have hp : Sat (w1.putObj (V.β k) (.loop { V1.lp k with state := .busy, pending := q1.pe })) (blk (V1.β k) (.loop { V1.lp k with state := .busy, pending := q1.pe }) :: xMp P (σ1.put k none) V1 :: F) := by
                  rw [hβ1]; exact hwo1.put rfl ⟨rfl, rfl, rfl⟩
                refine Tr.backH (P := P) (V := V1) (F := F) (σ := σ1) (k := k) (b := .lp { q1 with st := .busy }) (X := W P (pl q.pf) bo (xuo P (V.β k) K) E1) hl1 ⟨rfl, s1, s4, s5⟩ ?_ _ hp
                refine k4 V1 F E1 _ hE1 fun V3 E3 hx3 hE3 w3 hw3 => ?_
                have hx3' : Ext σ1.n V1 V3 := hx3
                obtain ⟨o3, ho3, hwo3⟩ := xNH hw3 hq3 hl3
                unfold CB.is at ho3
                obtain ⟨rfl, r1, r4, r5⟩ := ho3
                have hβ3 : V3.β k = V.β k := by rw [(hx3' k (Nat.lt_of_lt_of_le hkn g3)).1, hβ1]
                rw [hβ3] at hwo3
                have fin : ∃ v w', (Instr.endRound (V.β k) pe).run P w3 = .ok v w' ∧ K v w' := by
                  refine ⟨_, _, run_endRound pe hwo3.get, ?_⟩
                  have hp : Sat (w3.putObj (V.β k) (.loop { V3.lp k with state := if pe.isNone then .ready else .done, pending := pe })) (blk (V3.β k) (.loop { V3.lp k with state := if pe.isNone then .ready else .done, pending := pe }) :: xMp P (σ3.put k none) V3 :: F) := by
                    rw [hβ3]; exact hwo3.put rfl ⟨rfl, rfl, rfl⟩
                  exact Tr.backH (P := P) (V := V3) (F := F) (σ := σ3) (k := k) (b := .lp { q3 with st := if pe.isNone then .ready else .done, pe := pe }) (X := K (.bool pe.isNone)) hl3 ⟨rfl, r1, r4, r5⟩ (hK V3 (hx1.trans hx3' g3)) _ hp
                unfold xRM at hpe
                split at hpe <;> first | (cases hpe; exact fin) | cases hpe
            · cases h
          · cases h
        · cases h
      · cases h
    · cases h
  · cases h
end
noncomputable def xM6 : Code → Nat → Option (Array Oper)
  | .region id ops _, n => bif Nat.beq id n then some ops else none
  | .seq a b, n => match xM6 a n with
    | some o => some o
    | none => xM6 b n
  | .cond _ a b, n => match xM6 a n with
    | some o => some o
    | none => xM6 b n
  | .block _ b, n => xM6 b n
  | .loop b, n => xM6 b n
  | .scope b, n => xM6 b n
  | .rangeFunc _ _ a b, n => match xM6 a n with
    | some o => some o
    | none => xM6 b n
  | _, _ => none
noncomputable def xRU (ops : Array Oper) (n : Nat) : List (Nat × Nat × Bool) := (List.range n).map fun i => match ops[i]? with
  | some o => (i, o.after.toList.foldl (fun m e => bif Region.binds .any e then Nat.lor m (Nat.shiftLeft 1 e.on) else m) 0, !Vp o.op)
  | none => (i, 0, false)
noncomputable def xRV (done : Nat) (x : Nat × Nat × Bool) : Bool := Nat.beq (Nat.land x.2.1 done) x.2.1
noncomputable def xRX (done : Nat) (l : List (Nat × Nat × Bool)) : Option Nat × List Nat := List.rec (motive := fun _ => Option Nat × List Nat) (none, []) (fun x _ ih => bif xRV done x then (bif x.2.2 then (some x.1, []) else (ih.1, x.1 :: ih.2)) else ih) l
noncomputable def brs (f : Nat → Xj) : Xj → List Nat → Xj
  | p, [] => p
  | p, k :: r => brs f (.br p (f k)) r
noncomputable def auP (ops : Array Oper) (f : Nat) : Nat → List Nat → List (Nat × Nat × Bool) → Xj := Nat.rec (motive := fun _ => Nat → List Nat → List (Nat × Nat × Bool) → Xj) (fun _ _ _ => .fin)
  (fun _ ih done path l => match xRX done l with
    | (some i, _) => .st ⟨i, false, []⟩ (ih (Nat.lor done (Nat.shiftLeft 1 i)) (i :: path) (l.filter fun x => !Nat.beq x.1 i))
    | (none, []) => .fin
    | (none, j :: r) => (fun g => brs g (g j) r) (fun j => .st ⟨j, true, path.reverse.filter fun c => xgx ops c (fun o => !Vp o.op && !xju o.op) && !anc ops c j⟩ (ih (Nat.lor done (Nat.shiftLeft 1 j)) (j :: path) (l.filter fun x => !Nat.beq x.1 j)))) f
noncomputable def aut (P : Program) (f id : Nat) : Xj := match P.funcs[f]? with
  | some fn => match fn.body with
    | some c => match xM6 c id with
      | some ops => auP ops ops.size 0 [] (xRU ops ops.size)
      | none => .fin
    | none => .fin
  | none => .fin
noncomputable def xNg (f : Nat) (l : List Nat) : Bool := List.rec (motive := fun _ => Bool) false (fun x _ ih => bif Nat.beq f x then true else ih) l
theorem xMu {f : Nat} {p : Nat → Bool} : ∀ {l : List Nat}, xNg f l = true → l.all p = true → p f = true
  | [], h, _ => by cases h
  | x :: r, h, ha => by
    have h : (bif Nat.beq f x then true else xNg f r) = true := h
    rw [List.all_cons, Bool.and_eq_true] at ha
    cases e : Nat.beq f x with
    | true => rw [Nat.eq_of_beq_eq_true e]; exact ha.1
    | false => rw [e] at h; exact xMu h ha.2
section
variable {P : Program} {σ σ' : CS} {V V' : Vl} {F : List Xc} {X : WP} {pl : Nat → Nat → Xj} {fl : Nat}
theorem Tr.splitH {a b : CS} (ha : ∀ k x, a.h.get k = some x → ∃ y, σ.h.get k = some y ∧ CB.eq (fun k => k) x y = true) (hb : ∀ k x, b.h.get k = some x → σ.h.get k = some x) (hd : ∀ k x, a.h.get k = some x → b.h.get k = none) (h : Tr (xMp P a V :: xMp P b V :: F) X) : Tr (xMp P σ V :: F) X := fun w hw => by
  obtain ⟨R, h1, S, h2, ⟨h3, h4⟩, h5⟩ := hw
  refine h w ⟨R, h1, fun x => ∃ k y, a.h.get k = some y ∧ x = V.β k, fun x hx => ?_, ⟨fun k x hk => ⟨⟨k, x, hk, rfl⟩, ?_⟩, fun k k' x x' hk hk' he => ?_⟩, fun x => S x ∧ ¬ ∃ k y, a.h.get k = some y ∧ x = V.β k, fun x hx => ⟨(h2 x hx.1).1, fun hh => hh.elim (h2 x hx.1).2 hx.2⟩, ⟨fun k x hk => ?_, fun k k' x x' hk hk' he => h4 _ _ _ _ (hb _ _ hk) (hb _ _ hk') he⟩, h5.weaken fun x hx => ?_⟩
  · obtain ⟨k, y, hk, rfl⟩ := hx
    obtain ⟨z, hz, _⟩ := ha k y hk
    exact h2 _ (h3 k z hz).1
  · obtain ⟨y, hy, e⟩ := ha k x hk
    obtain ⟨_, o, c, d⟩ := h3 k y hy
    exact ⟨o, c, CB.eq_spec (ρ := fun k => k) e d⟩
  · obtain ⟨y, hy, _⟩ := ha k x hk
    obtain ⟨y', hy', _⟩ := ha k' x' hk'
    exact h4 _ _ _ _ hy hy' he
  · obtain ⟨s, o, c, d⟩ := h3 k x (hb k x hk)
    refine ⟨⟨s, ?_⟩, o, c, d⟩
    rintro ⟨k', y, hk', e⟩
    obtain ⟨z, hz, _⟩ := ha k' y hk'
    have := h4 _ _ _ _ (hb k x hk) hz e
    subst this
    rw [hd _ _ hk'] at hk; cases hk
  · rcases hx with (hx | ⟨k, y, hk, rfl⟩) | hx
    · exact .inl hx
    · obtain ⟨z, hz, _⟩ := ha k y hk
      exact .inr (h3 k z hz).1
    · exact .inr hx.1
theorem Tr.joinH {a b : CS} (hs : ∀ k x, σ.h.get k = some x → a.h.get k = some x ∨ b.h.get k = some x) (h : Tr (xMp P σ V :: F) X) : Tr (xMp P a V :: xMp P b V :: F) X := fun w hw => by
  obtain ⟨R, h1, S1, h2, ⟨h3, h4⟩, S2, h5, ⟨h6, h7⟩, h8⟩ := hw
  refine h w ⟨R, h1, fun x => S1 x ∨ S2 x, fun x hx => hx.elim (h2 x) (fun hx => ⟨(h5 x hx).1, fun hh => (h5 x hx).2 (.inl hh)⟩), ⟨fun k x hk => ?_, fun k k' x x' hk hk' he => ?_⟩, h8.weaken fun x hx => ?_⟩
  · rcases hs k x hk with hk | hk
    · obtain ⟨s, o, c, d⟩ := h3 k x hk
      exact ⟨.inl s, o, c, d⟩
    · obtain ⟨s, o, c, d⟩ := h6 k x hk
      exact ⟨.inr s, o, c, d⟩
  · rcases hs k x hk with hk | hk <;> rcases hs k' x' hk' with hk' | hk'
    · exact h4 _ _ _ _ hk hk' he
    · exact absurd (.inr (he ▸ (h3 k x hk).1)) (h5 _ (h6 k' x' hk').1).2
    · exact absurd (.inr (he ▸ (h3 k' x' hk').1)) (h5 _ (h6 k x hk).1).2
    · exact h7 _ _ _ _ hk hk' he
  · rcases hx with hx | hx | hx
    · exact .inl (.inl hx)
    · exact .inl (.inr hx)
    · exact .inr hx
theorem Tr.subH {a : CS} (ha : ∀ k x, a.h.get k = some x → ∃ y, σ.h.get k = some y ∧ CB.eq (fun k => k) x y = true) (h : Tr (xMp P a V :: F) X) : Tr (xMp P σ V :: F) X :=
  Tr.splitH (b := ⟨0, .em⟩) ha (fun k x hk => by rw [show (⟨0, .em⟩ : CS).h.get k = none from Tri.get_em k] at hk; cases hk) (fun k x _ => Tri.get_em k) (Tr.perm (List.Perm.swap _ _ _) fun w hw => by
    obtain ⟨R, h1, S, h2, _, h5⟩ := hw
    exact h w ⟨R, h1, h5.weaken fun x hx => .inl hx⟩)
end
structure EnC where
  g : Nat
  as : List CV
  n : Nat
  pre : List (Nat × CB)
  v : CV
  m : Nat
  post : List (Nat × CB)
noncomputable def xMq (pre chg : List (Nat × CB)) : List (Nat × CB) := chg ++ pre.filter fun x => !chg.any fun y => Nat.beq x.1 y.1
noncomputable def xMA (pre : List (Nat × CB)) (ks : List Nat) : List (Nat × CB) := pre.filter fun x => !xNg x.1 ks
noncomputable def trL (t : Tri CB) (l : List (Nat × CB)) : Tri CB := List.rec (motive := fun _ => Tri CB) t (fun x _ ih => Tri.put ih x.1 (some x.2)) l
noncomputable def xOe (t : Tri CB) (l : List (Nat × CB)) : Tri CB := List.rec (motive := fun _ => Tri CB) t (fun x _ ih => Tri.put ih x.1 none) l
noncomputable def Jc (t : Tri CB) (l : List (Nat × CB)) : Bool := List.rec (motive := fun _ => Bool) true (fun x _ ih => bif (match Tri.get t x.1 with
  | some b => CB.eq (fun k => k) x.2 b
  | none => false) then ih else false) l
noncomputable def ltL (n : Nat) (l : List (Nat × CB)) : Bool := List.rec (motive := fun _ => Bool) true (fun x _ ih => bif Nat.blt x.1 n then ih else false) l
mutual
noncomputable def CV.bdb (n : Nat) : CV → Bool
  | .p k _ => Nat.blt k n
  | .sl k _ _ _ => Nat.blt k n
  | .sq k _ _ => Nat.blt k n
  | .f _ a c => CV.bdbs n a && CV.bdbs n c
  | .y k => Nat.blt k n
  | .it _ v => CV.bdb n v
  | .ag l => CV.bdbs n l
  | .tp l => CV.bdbs n l
  | .m k => Nat.blt k n
  | .cn k => Nat.blt k n
  | _ => true
noncomputable def CV.bdbs (n : Nat) : List CV → Bool
  | [] => true
  | x :: r => CV.bdb n x && CV.bdbs n r
end
mutual
theorem CV.bdb_spec {n : Nat} : ∀ v : CV, CV.bdb n v = true → v.bd n
  | .b _, _ | .i _ _, _ | .s _, _ | .pn, _ | .sn, _ | .nf, _ | .ni, _ | .mn, _ | .cz, _ => by unfold CV.bd; trivial
  | .p _ _, h | .sl _ _ _ _, h | .sq _ _ _, h | .y _, h | .m _, h | .cn _, h => by
    unfold CV.bdb at h
    unfold CV.bd
    exact Nat.le_of_ble_eq_true h
  | .it _ v, h => by unfold CV.bdb at h; unfold CV.bd; exact CV.bdb_spec v h
  | .f _ a c, h => by
    unfold CV.bdb at h
    rw [Bool.and_eq_true] at h
    unfold CV.bd
    exact ⟨CV.bdbs_spec a h.1, CV.bdbs_spec c h.2⟩
  | .ag l, h | .tp l, h => by unfold CV.bdb at h; unfold CV.bd; exact CV.bdbs_spec l h
theorem CV.bdbs_spec {n : Nat} : ∀ l : List CV, CV.bdbs n l = true → CV.bds n l
  | [], _ => fun _ hx => by cases hx
  | x :: r, h => by
    unfold CV.bdbs at h
    rw [Bool.and_eq_true] at h
    intro z hz
    rcases List.mem_cons.1 hz with e | hz
    · rw [e]; exact CV.bdb_spec x h.1
    · exact CV.bdbs_spec r h.2 z hz
end
noncomputable def mpB (n : Nat) : List (Int × CV) → Bool
  | [] => true
  | x :: r => CV.bdb n x.2 && mpB n r
noncomputable def CB.bdb (n : Nat) : CB → Bool
  | .cells vs _ _ => CV.bdbs n vs
  | .lp _ => false
  | .df => true
  | .mp es => mpB n es
  | .ch _ l => CV.bdbs n l
theorem xOq {n : Nat} : ∀ {l : List (Int × CV)}, mpB n l = true → ∀ x ∈ l, x.2.bd n
  | [], _, x, hx => by cases hx
  | y :: r, h, x, hx => by
    unfold mpB at h
    rw [Bool.and_eq_true] at h
    rcases List.mem_cons.1 hx with rfl | hx
    · exact CV.bdb_spec _ h.1
    · exact xOq h.2 x hx
theorem CB.bdb_spec {n : Nat} {b : CB} (h : CB.bdb n b = true) : b.bd n := by
  cases b with
  | cells vs ty ex => exact CV.bdbs_spec vs h
  | lp r => cases h
  | df => trivial
  | mp es => exact xOq h
  | ch _ l => exact CV.bdbs_spec l h
noncomputable def bdL (n : Nat) (l : List (Nat × CB)) : Bool := List.rec (motive := fun _ => Bool) true (fun x _ ih => bif CB.bdb n x.2 then ih else false) l
theorem xQo {a b : Bool} (h : (bif a then b else false) = true) : a = true ∧ b = true := by
  cases a with
  | true => exact ⟨rfl, h⟩
  | false => cases h
theorem xMS {n : Nat} : ∀ {l : List (Nat × CB)}, ltL n l = true → ∀ x ∈ l, x.1 < n
  | [], _, x, hx => by cases hx
  | y :: r, h, x, hx => by
    obtain ⟨h1, h2⟩ := xQo (show (bif Nat.blt y.1 n then ltL n r else false) = true from h)
    rcases List.mem_cons.1 hx with rfl | hx
    · exact Nat.le_of_ble_eq_true h1
    · exact xMS h2 x hx
theorem xNE {n : Nat} : ∀ {l : List (Nat × CB)}, bdL n l = true → ∀ x ∈ l, x.2.bd n
  | [], _, x, hx => by cases hx
  | y :: r, h, x, hx => by
    obtain ⟨h1, h2⟩ := xQo (show (bif CB.bdb n y.2 then bdL n r else false) = true from h)
    rcases List.mem_cons.1 hx with rfl | hx
    · exact CB.bdb_spec h1
    · exact xNE h2 x hx
theorem xNq {t : Tri CB} : ∀ {l : List (Nat × CB)}, Jc t l = true → ∀ x ∈ l, ∃ b, Tri.get t x.1 = some b ∧ CB.eq (fun k => k) x.2 b = true
  | [], _, x, hx => by cases hx
  | y :: r, h, x, hx => by
    obtain ⟨h1, h2⟩ := xQo (show (bif (match Tri.get t y.1 with
      | some b => CB.eq (fun k => k) y.2 b
      | none => false) then Jc t r else false) = true from h)
    rcases List.mem_cons.1 hx with rfl | hx
    · split at h1
      · rename_i b hb; exact ⟨b, hb, h1⟩
      · cases h1
    · exact xNq h2 x hx
theorem xM2 : ∀ {l : List (Nat × CB)} {k : Nat} {b : CB}, (∀ x ∈ l, x.1 < Lim) → Tri.get (trL .em l) k = some b → ∃ x ∈ l, x.1 = k ∧ x.2 = b
  | [], k, b, _, h => by rw [show Tri.get (trL .em []) k = none from Tri.get_em k] at h; cases h
  | y :: r, k, b, hl, h => by
    have h : Tri.get (Tri.put (trL .em r) y.1 (some y.2)) k = some b := h
    rw [Tri.get_put (hl y (List.mem_cons_self ..))] at h
    by_cases e : k = y.1
    · rw [if_pos e] at h
      exact ⟨y, List.mem_cons_self .., e.symm, Option.some.inj h⟩
    · rw [if_neg e] at h
      obtain ⟨x, hx, h2⟩ := xM2 (fun x hx => hl x (List.mem_cons_of_mem _ hx)) h
      exact ⟨x, List.mem_cons_of_mem _ hx, h2⟩
theorem xNp {t : Tri CB} : ∀ {l : List (Nat × CB)} {k : Nat} {b : CB}, (∀ x ∈ l, x.1 < Lim) → Tri.get (trL t l) k = some b → Tri.get (trL .em l) k = some b ∨ Tri.get t k = some b
  | [], k, b, _, h => .inr h
  | y :: r, k, b, hl, h => by
    have h : Tri.get (Tri.put (trL t r) y.1 (some y.2)) k = some b := h
    rw [Tri.get_put (hl y (List.mem_cons_self ..))] at h
    show Tri.get (Tri.put (trL .em r) y.1 (some y.2)) k = some b ∨ _
    rw [Tri.get_put (hl y (List.mem_cons_self ..))]
    by_cases e : k = y.1
    · rw [if_pos e] at h ⊢; exact .inl h
    · rw [if_neg e] at h ⊢
      exact xNp (fun x hx => hl x (List.mem_cons_of_mem _ hx)) h
theorem xMT {t : Tri CB} : ∀ {l : List (Nat × CB)} {k : Nat} {b : CB}, (∀ x ∈ l, x.1 < Lim) → Tri.get (xOe t l) k = some b → Tri.get t k = some b ∧ ∀ x ∈ l, x.1 ≠ k
  | [], k, b, _, h => ⟨h, fun x hx => by cases hx⟩
  | y :: r, k, b, hl, h => by
    have h : Tri.get (Tri.put (xOe t r) y.1 none) k = some b := h
    rw [Tri.get_put (hl y (List.mem_cons_self ..))] at h
    by_cases e : k = y.1
    · rw [if_pos e] at h; cases h
    · rw [if_neg e] at h
      obtain ⟨h1, h2⟩ := xMT (fun x hx => hl x (List.mem_cons_of_mem _ hx)) h
      refine ⟨h1, fun x hx => ?_⟩
      rcases List.mem_cons.1 hx with rfl | hx
      · exact fun h => e h.symm
      · exact h2 x hx
def xMn (P : Program) (en : EnC) : Prop := (∀ x ∈ en.pre, x.1 < Lim) ∧ (∀ x ∈ en.post, x.1 < Lim) ∧ OpS P ⟨en.n, trL .em en.pre⟩ (fun V K => FnK P en.g (CV.vs V en.as).toArray K) (en.v, ⟨en.m, trL .em en.post⟩)
noncomputable def xPC (tbl : List EnC) (g : Nat) (as : List CV) (σ : CS) : Option (CV × CS) := List.rec (motive := fun _ => Option (CV × CS)) none
  (fun en _ ih => bif Nat.beq en.n σ.n then (bif Nat.beq en.g g then (bif CV.eqs en.as as then (bif Jc σ.h en.pre then some (en.v, ⟨en.m, trL (xOe σ.h en.pre) en.post⟩) else ih) else ih) else ih) else ih) tbl
theorem xMn.use {P : Program} {σ : CS} {en : EnC} (h : xMn P en) (hn : en.n = σ.n) (hp : Jc σ.h en.pre = true) (hok : σ.ok) : OpS P σ (fun V K => FnK P en.g (CV.vs V en.as).toArray K) (en.v, ⟨en.m, trL (xOe σ.h en.pre) en.post⟩) := by
  obtain ⟨h1, h2, g1, g2, g3, g4⟩ := h
  have g2 : en.n ≤ en.m := g2
  have hp := xNq hp
  have okb : CS.ok ⟨σ.n, xOe σ.h en.pre⟩ := ⟨hok.1, fun k b hk => hok.2 k b (xMT h1 hk).1⟩
  refine ⟨⟨g1.1, fun k b hk => ?_⟩, by show σ.n ≤ en.m; omega, g3, fun V F K hK => ?_⟩
  · rcases xNp h2 hk with hk | hk
    · exact g1.2 k b hk
    · have := hok.2 k b (xMT h1 hk).1
      exact ⟨by show k < en.m; omega, CB.bd_mono (by show σ.n ≤ en.m; omega) this.2⟩
  · refine Tr.splitH (a := ⟨en.n, trL .em en.pre⟩) (b := ⟨σ.n, xOe σ.h en.pre⟩) (fun k x hk => ?_) (fun k x hk => (xMT h1 hk).1) (fun k x hk => ?_) ?_
    · obtain ⟨y, hy, rfl, rfl⟩ := xM2 h1 hk
      exact hp y hy
    · obtain ⟨y, hy, rfl, rfl⟩ := xM2 h1 hk
      cases e : Tri.get (xOe σ.h en.pre) y.1 with
      | none => first | exact e | rfl
      | some z => exact absurd rfl ((xMT h1 e).2 y hy)
    · refine g4 V (xMp P ⟨σ.n, xOe σ.h en.pre⟩ V :: F) K fun V' hx => ?_
      have hx : Ext σ.n V V' := by rw [← hn]; exact hx
      refine Tr.perm (List.Perm.swap _ _ _) (Tr.extH okb hx (Tr.perm (List.Perm.swap _ _ _) (Tr.joinH (fun k x hk => ?_) (hK V' hx))))
      exact xNp h2 hk
theorem xNW {P : Program} {g : Nat} {as : List CV} {σ : CS} {r : CV × CS} (hok : σ.ok) : ∀ {tbl : List EnC}, (∀ en ∈ tbl, xMn P en) → xPC tbl g as σ = some r → OpS P σ (fun V K => FnK P g (CV.vs V as).toArray K) r
  | [], _, h => by cases h
  | en :: tl, ht, h => by
    have h : (bif Nat.beq en.n σ.n then (bif Nat.beq en.g g then (bif CV.eqs en.as as then (bif Jc σ.h en.pre then some (en.v, ⟨en.m, trL (xOe σ.h en.pre) en.post⟩) else xPC tl g as σ) else xPC tl g as σ) else xPC tl g as σ) else xPC tl g as σ) = some r := h
    have ih := xNW (as := as) (g := g) (r := r) hok fun x hx => ht x (List.mem_cons_of_mem _ hx)
    cases e1 : Nat.beq en.n σ.n with
    | false => rw [e1] at h; exact ih h
    | true =>
      rw [e1] at h
      cases e2 : Nat.beq en.g g with
      | false => rw [e2] at h; exact ih h
      | true =>
        rw [e2] at h
        cases e3 : CV.eqs en.as as with
        | false => rw [e3] at h; exact ih h
        | true =>
          rw [e3] at h
          cases e4 : Jc σ.h en.pre with
          | false => rw [e4] at h; exact ih h
          | true =>
            rw [e4] at h
            cases h
            have := (ht en (List.mem_cons_self ..)).use (Nat.eq_of_beq_eq_true e1) e4 hok
            rw [Nat.eq_of_beq_eq_true e2, CV.eqs_spec _ _ e3] at this
            exact this
noncomputable def clT (P : Program) (ok : Nat → Bool) (pl : Nat → Nat → Xj) (fl : Nat) (tbl : List EnC) : Nat → Cl
  | 0 => fun _ _ _ => none
  | n + 1 => fun f as σ => match f with
    | .f g a c => match xPC tbl g (a ++ (as ++ c)) σ with
      | some r => some r
      | none => exF P ok (clT P ok pl fl tbl n) pl fl g (a ++ (as ++ c)) σ
    | .y k => exY P ok (clT P ok pl fl tbl n) pl fl k as σ
    | _ => none
theorem xNS {P : Program} {pl : Nat → Nat → Xj} {fl : Nat} {ok : Nat → Bool} (hm : P.follows .mixedOrders = true) (hk : ∀ f, ok f = true → xML P pl f = true) {tbl : List EnC} (ht : ∀ en ∈ tbl, xMn P en) : ∀ n, ClS P (clT P ok pl fl tbl n)
  | 0 => fun _ _ _ _ h => by cases h
  | n + 1 => fun f as σ r h hok hf ha => by
    have ih := xNS (fl := fl) hm hk ht n
    unfold clT at h
    split at h
    · rename_i g a c
      unfold CV.bd at hf
      have fin : OpS P σ (fun V K => FnK P g (CV.vs V (a ++ (as ++ c))).toArray K) r := by
        split at h
        · rename_i r' hr
          cases h
          exact xNW hok ht hr
        · refine xNQ hm hk ih h hok fun z hz => ?_
          rcases List.mem_append.1 hz with hz | hz
          · exact hf.1 z hz
          · exact (List.mem_append.1 hz).elim (ha z) (hf.2 z)
      refine fin.mono fun V K w hK => ?_
      show FnK P g ((CV.vs V a).toArray ++ (CV.vs V as).toArray ++ (CV.vs V c).toArray) K w
      have e : ((CV.vs V a).toArray ++ (CV.vs V as).toArray ++ (CV.vs V c).toArray : Array Value) = (CV.vs V (a ++ (as ++ c))).toArray := by
        apply Array.ext'; simp [CV.vs_map]
      rw [e]; exact hK
    · rename_i k
      refine (xQg hm hk ih h hok ha).mono fun V K w hK => ?_
      show xcx P (V.β k) (#[] ++ (CV.vs V as).toArray) K w
      rw [Array.empty_append]; exact hK
    · cases h
noncomputable def xRE (P : Program) (ok : Nat → Bool) (pl : Nat → Nat → Xj) (fl d : Nat) (tbl : List EnC) (en : EnC) : Bool :=
  ((Nat.ble en.n 4294967295 && Nat.ble en.m 4294967295) && ((ltL en.n en.pre && bdL en.n en.pre) && ((ltL en.m en.post && bdL en.m en.post) && CV.bdbs en.n en.as))) &&
  (match exF P ok (clT P ok pl fl tbl d) pl fl en.g en.as ⟨en.n, trL .em en.pre⟩ with
  | some (v, σ) => (CV.eq en.v v && Nat.beq en.m σ.n) && Jc σ.h en.post
  | none => false)
theorem xMk {P : Program} {pl : Nat → Nat → Xj} {fl d : Nat} {ok : Nat → Bool} (hm : P.follows .mixedOrders = true) (hk : ∀ f, ok f = true → xML P pl f = true) {tbl : List EnC} (ht : ∀ en ∈ tbl, xMn P en) {en : EnC} (h : xRE P ok pl fl d tbl en = true) : xMn P en := by
  unfold xRE at h
  rw [Bool.and_eq_true] at h
  obtain ⟨h1, h2⟩ := h
  simp only [Bool.and_eq_true] at h1
  obtain ⟨⟨a1, a2⟩, ⟨a3, a4⟩, ⟨a5, a6⟩, a7⟩ := h1
  have a1 : en.n ≤ Lim := Nat.le_of_ble_eq_true a1
  have a2 : en.m ≤ Lim := Nat.le_of_ble_eq_true a2
  have l1 : ∀ x ∈ en.pre, x.1 < Lim := fun x hx => Nat.lt_of_lt_of_le (xMS a3 x hx) a1
  have l2 : ∀ x ∈ en.post, x.1 < Lim := fun x hx => Nat.lt_of_lt_of_le (xMS a5 x hx) a2
  split at h2
  · rename_i v σ hx
    simp only [Bool.and_eq_true] at h2
    obtain ⟨⟨b1, b2⟩, b3⟩ := h2
    have b1 := CV.eq_spec _ _ b1
    have b2 := Nat.eq_of_beq_eq_true b2
    have b3 := xNq b3
    have ok0 : CS.ok ⟨en.n, trL .em en.pre⟩ := ⟨a1, fun k b hk => by
      obtain ⟨y, hy, rfl, rfl⟩ := xM2 l1 hk
      exact ⟨xMS a3 y hy, xNE a4 y hy⟩⟩
    obtain ⟨g1, g2, g3, g4⟩ := xNQ hm hk (xNS hm hk ht d) hx ok0 (CV.bdbs_spec _ a7)
    refine ⟨l1, l2, ⟨a2, fun k b hk => ?_⟩, by rw [b2]; exact g2, by rw [b1, b2]; exact g3, fun V F K hK => ?_⟩
    · obtain ⟨y, hy, rfl, rfl⟩ := xM2 l2 hk
      exact ⟨xMS a5 y hy, xNE a6 y hy⟩
    · refine g4 V F K fun V' hx => ?_
      have := hK V' hx
      rw [b1] at this
      refine Tr.subH (a := ⟨en.m, trL .em en.post⟩) (fun k x hk => ?_) this
      obtain ⟨y, hy, rfl, rfl⟩ := xM2 l2 hk
      exact b3 y hy
  · cases h2
noncomputable def xPr (P : Program) (ok : Nat → Bool) (pl : Nat → Nat → Xj) (fl n : Nat) (tbl : List EnC) (f : Nat) (as : List CV) : Bool := match exF P ok (clT P ok pl fl tbl n) pl fl f as ⟨0, .em⟩ with
  | some (.b true, _) => true
  | _ => false
section
variable {P : Program} {pl : Nat → Nat → Xj} {fl : Nat}
theorem xOi {ok : Nat → Bool} (hm : P.follows .mixedOrders = true) (hk : ∀ f, ok f = true → xML P pl f = true) {n f : Nat} {as : List CV} {vs : List Value} (hn : xa1 P f = true) (hg : CV.grs as = some vs) {tbl : List EnC} (ht : ∀ en ∈ tbl, xMn P en) (h : xPr P ok pl fl n tbl f as = true) : Xb P f vs.toArray [] fun v l => v = .bool true ∧ l = [] := fun F K hK => by
  unfold xPr at h
  split at h
  · rename_i σ hx
    have hok : CS.ok ⟨0, .em⟩ := ⟨Nat.zero_le _, fun k b h => (by rw [Tri.get_em] at h; cases h)⟩
    have ha : CV.bds 0 as := by
      have gen : ∀ (l : List CV) (xs : List Value), CV.grs l = some xs → CV.bds 0 l := by
        intro l
        induction l with
        | nil => intro xs _ x hx; cases hx
        | cons y r ih =>
          intro xs h x hx
          unfold CV.grs at h
          split at h
          · rename_i u hu
            split at h
            · rename_i w hw
              rcases List.mem_cons.1 hx with rfl | hx
              · cases x <;> simp only [CV.gr, reduceCtorEq] at hu <;> (unfold CV.bd; trivial)
              · exact ih w hw x hx
            · cases h
          · cases h
      exact gen as vs hg
    obtain ⟨_, _, _, h4⟩ := xNQ (pl := pl) (fl := fl) hm hk (xNS hm hk ht n) hx hok ha
    let V : Vl := ⟨fun n => n, fun n => n, fun _ => ⟨.ready, none, 0, #[], #[], .skip, .skip, 0⟩⟩
    have := h4 V F K fun V' _ w hw => hK (.bool true) [] ⟨rfl, rfl⟩ w hw.tail
    intro w hw
    have hw' : Sat w (xMp P ⟨0, .em⟩ V :: F) := by
      obtain ⟨R, h1, h2⟩ := hw
      exact ⟨R, h1, fun _ => False, fun _ h => h.elim, ⟨fun k b h => (by rw [Tri.get_em] at h; cases h), fun k k' b b' h => (by rw [Tri.get_em] at h; cases h)⟩, Z7.weaken (fun _ hb => hb.elim id False.elim) h2⟩
    have hr := this w hw'
    have hr : FnK P f (CV.vs V as).toArray K w := hr
    rw [CV.grs_spec hg V, xuz hn] at hr
    exact hr
  · cases h
