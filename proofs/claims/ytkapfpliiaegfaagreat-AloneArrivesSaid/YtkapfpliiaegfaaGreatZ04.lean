import Derived.Test.YtkapfpliiaegfaaGreatZ03
namespace Go.Wk
open Go
section
variable {P : Program} {σ σ' : CS} {v x y u : CV} {t ty : TypeId} {r : CV × CS}
noncomputable def xRi (P : Program) (t : TypeId) (f : Nat) : CV → Option CV
  | .ag l => match xmE P t f with
    | some (off, s, g) => bif g then (bif Nat.ble (off + s) l.length then some (.ag ((l.drop off).take s)) else none) else l[off]?
    | none => none
  | _ => none
theorem xPG {f : Nat} (h : xRi P t f x = some v) (hok : σ.ok) (hx : x.bd σ.n) : OpS P σ (fun V K => Xq P (Instr.field t (x.v V) f) K) (v, σ) := by
  unfold xRi at h
  split at h
  · rename_i l
    have hb : CV.bds σ.n l := by unfold CV.bd at hx; exact hx
    split at h
    · rename_i off s g hf
      cases g with
      | true =>
        rw [cond_true] at h
        obtain ⟨hl, h⟩ := xMl h
        cases h
        have hl := Nat.le_of_ble_eq_true hl
        have : xqt P t f off s true := ⟨hf⟩
        refine ⟨hok, Nat.le_refl _, by unfold CV.bd; exact fun y hy => hb y (List.mem_of_mem_drop (List.mem_of_mem_take hy)), fun V F K hK => ?_⟩
        refine A.fldvG (l := xMp P σ V :: F) (off := off) (s := s) (cs := CV.vs V l) (v := CV.vs V ((l.drop off).take s)) ?_ (hK V (Ext.refl _ _))
        rw [CV.vs_map, CV.vs_map, List.map_take, List.map_drop, List.drop_take]
        congr 1; omega
      | false =>
        rw [cond_false] at h
        obtain ⟨fs, fd, h1, h2, h3, h4, h5⟩ := xe4 hf
        refine OpS.val hok (hb v (List.mem_of_getElem? h)) fun V K w hK => ⟨_, ?_, hK⟩
        have hv : (CV.vs V l).toArray[off]? = some (v.v V) := by
          have := CV.vs_get V h []
          rw [List.append_nil] at this
          simpa using this
        subst h3
        show (Instr.field t (.agg (CV.vs V l).toArray) f).run P w = _
        simp only [Instr.field, Sem.run_bind, run_underlying h1, Result.andThen_ok, h2, asAgg, Sem.run_pure]
        exact xEf (h5 w) hv
    · cases h
  · cases h
noncomputable def xRl (P : Program) (t : TypeId) (x i : CV) : Option CV := match x, i with
  | .ag l, .i _ j => match xoQ P t with
    | some (n, s, g) => bif inN j n then (bif g then (bif Nat.ble (j.toNat * s + s) l.length then some (.ag ((l.drop (j.toNat * s)).take s)) else none) else l[j.toNat * s]?) else none
    | none => none
  | .s z, .i k j => xM7 P (Instr.index t (.string z) (.int k j))
  | _, _ => none
theorem xPP {i : CV} (h : xRl P t x i = some v) (hok : σ.ok) (hx : x.bd σ.n) : OpS P σ (fun V K => Xq P (Instr.index t (x.v V) (i.v V)) K) (v, σ) := by
  unfold xRl at h
  split at h
  · rename_i l k j
    have hb : CV.bds σ.n l := by unfold CV.bd at hx; exact hx
    split at h
    · rename_i n s g hf
      obtain ⟨hj, h⟩ := xMl h
      obtain ⟨h0, h1⟩ := xNI hj
      obtain ⟨e, hu, hsz, hag⟩ := xf4 hf
      cases g with
      | true =>
        rw [cond_true] at h
        obtain ⟨hl, h⟩ := xMl h
        cases h
        have hl := Nat.le_of_ble_eq_true hl
        have : xuX P t n s true := ⟨hf⟩
        refine ⟨hok, Nat.le_refl _, by unfold CV.bd; exact fun y hy => hb y (List.mem_of_mem_drop (List.mem_of_mem_take hy)), fun V F K hK => ?_⟩
        refine A.aidxG (l := xMp P σ V :: F) (n := n) (s := s) (cs := CV.vs V l) (v := CV.vs V ((l.drop (j.toNat * s)).take s)) h0 h1 ?_ (hK V (Ext.refl _ _))
        rw [CV.vs_map, CV.vs_map, List.map_take, List.map_drop, List.drop_take]
        congr 1; omega
      | false =>
        rw [cond_false] at h
        have : xuX P t n s false := ⟨hf⟩
        refine ⟨hok, Nat.le_refl _, hb v (List.mem_of_getElem? h), fun V F K hK => ?_⟩
        refine A.aidx (l := xMp P σ V :: F) (n := n) (s := s) (cs := CV.vs V l) h0 h1 ?_ (hK V (Ext.refl _ _))
        have := CV.vs_get V h []
        rw [List.append_nil] at this
        exact this
    · cases h
  · rename_i z k j
    obtain ⟨w, h1, h2⟩ := xMy h
    exact OpS.gen (fun V K w h => h) hok h1 h2
  · cases h
noncomputable def xNP (place : Nat → Option (Nat × Nat)) : List CV → List (Nat × CV) → Option (List CV)
  | cs, [] => some cs
  | cs, (i, v) :: r => match place i with
    | some (off, size) => bif Nat.beq v.cs.length size && Nat.ble (off + size) cs.length then xNz cs off v.cs fun cs => xNP place cs r else none
    | none => none
theorem xMO {place : Nat → Option (Nat × Nat)} {n : Nat} : ∀ {ps : List (Nat × CV)} {cs cs' : List CV}, xNP place cs ps = some cs' → CV.bds n cs → (∀ p ∈ ps, p.2.bd n) →
    CV.bds n cs' ∧ ∀ V, xaS place (CV.vs V cs) (ps.map fun p => (p.1, p.2.v V)) = some (CV.vs V cs')
  | [], cs, cs', h, hb, _ => by simp only [xNP, Option.some.injEq] at h; subst h; exact ⟨hb, fun V => rfl⟩
  | (i, v) :: r, cs, cs', h, hb, hp => by
    unfold xNP at h
    split at h
    · rename_i off size hpl
      obtain ⟨hc, h⟩ := xMl h
      simp only [Bool.and_eq_true] at hc
      have h1 := Nat.eq_of_beq_eq_true hc.1
      have h2 := Nat.le_of_ble_eq_true hc.2
      rw [xMW] at h
      have ih := xMO h (xM1 cs off v.cs hb (CV.cs_bd (hp (i, v) (List.mem_cons_self ..)))) fun p hp' => hp p (List.mem_cons_of_mem _ hp')
      refine ⟨ih.1, fun V => ?_⟩
      simp only [List.map_cons, xaS, hpl]
      rw [CV.cs_spec v V]
      rw [if_pos ⟨by rw [List.size_toArray, CV.vs_len]; exact h1, by rw [CV.vs_len]; exact h2⟩]
      have e := xMX V [] cs off v.cs (by omega)
      rw [List.append_nil, List.append_nil] at e
      rw [List.toList_toArray, ← e]
      exact ih.2 V
    · cases h
theorem xPo (pl : List (Nat × Nat)) : ∀ (ps : List (Nat × Value)) (cs : List Value), xif pl cs ps = xaS (fun i => pl[i]?) cs ps
  | [], _ => rfl
  | (i, v) :: r, cs => by
    simp only [xif, xaS]
    cases pl[i]? with
    | none => rfl
    | some os => simp only [xPo pl r]
noncomputable def xOQ (P : Program) (t : TypeId) (ps : List (Nat × CV)) : Option CV := match xby P t with
  | some z => match ofV z with
    | some (.ag l) => match xg9 P t with
      | some pl => match xNP (fun i => pl[i]?) l ps with
        | some cs => some (.ag cs)
        | none => none
      | none => match xtp P t with
        | some s => match xNP (fun i => some (i * s, s)) l ps with
          | some cs => some (.ag cs)
          | none => none
        | none => none
    | _ => none
  | none => none
theorem xON {ps : List (Nat × CV)} (h : xOQ P t ps = some v) (hok : σ.ok) (hp : ∀ p ∈ ps, p.2.bd σ.n) : OpS P σ (fun V K => Xq P (Instr.build t (ps.map fun p => (p.1, p.2.v V)).toArray) K) (v, σ) := by
  unfold xOQ at h
  split at h
  · rename_i z hz
    split at h
    · rename_i l hl
      obtain ⟨h1, h2⟩ := xMv hl
      have hb : CV.bds σ.n l := by have := h2 σ.n; unfold CV.bd at this; exact this
      have hz' : ∀ V, xby P t = some (.agg (CV.vs V l).toArray) := fun V => by rw [hz, ← h1 V]; rfl
      split at h
      · rename_i pl hpl
        split at h
        · rename_i cs hcs
          cases h
          obtain ⟨h3, h4⟩ := xMO hcs hb hp
          refine ⟨hok, Nat.le_refl _, by unfold CV.bd; exact h3, fun V F K hK => ?_⟩
          have : Yp P t pl (CV.vs V l) := ⟨hpl, hz' V⟩
          exact Tr.build (by rw [xPo, List.toList_toArray]; exact h4 V) (hK V (Ext.refl _ _))
        · cases h
      · split at h
        · rename_i s hs
          split at h
          · rename_i cs hcs
            cases h
            obtain ⟨h3, h4⟩ := xMO hcs hb hp
            refine ⟨hok, Nat.le_refl _, by unfold CV.bd; exact h3, fun V F K hK => ?_⟩
            have : xuC P t s (CV.vs V l) := ⟨hs, hz' V⟩
            exact A.buildA (by rw [List.toList_toArray]; exact h4 V) (hK V (Ext.refl _ _))
          · cases h
        · cases h
    · cases h
  · cases h
noncomputable def gI (z : Array Value) (i : Nat) : Value := @getElem! (Array Value) Nat Value (fun xs i => i < xs.size) Array.instGetElem?NatLtSize instInhabitedValue z i
noncomputable def xOj : Nat → List CV → List CV
  | 0, _ => []
  | n + 1, z => z ++ xOj n z
theorem xOk {m : Nat} {z : List CV} (h : CV.bds m z) : ∀ n, CV.bds m (xOj n z)
  | 0 => fun _ hx => by cases hx
  | n + 1 => fun x hx => by
    rcases List.mem_append.1 hx with hx | hx
    · exact h x hx
    · exact xOk h n x hx
theorem xN4 {V : Vl} {z : List CV} [iE : En Unit] (hz : En.enc () = CV.vs V z) : ∀ n, XK (List.replicate n ()) = CV.vs V (xOj n z)
  | 0 => rfl
  | n + 1 => by
    have ih := xN4 (V := V) hz n
    rw [CV.vs_map] at *
    rw [List.replicate_succ]
    show En.enc () ++ XK (List.replicate n ()) = _
    rw [ih, hz, xOj, List.map_append]
theorem xOa {V : Vl} {z : List CV} (h1 : z.all CV.one = true) (hp : 0 < z.length) (n : Nat) : (Array.range (n * z.length)).map (fun x => gI (CV.vs V z).toArray (x % (CV.vs V z).toArray.size)) = (CV.vs V (xOj n z)).toArray := by
  letI : En Unit := ⟨fun _ => CV.vs V z, z.length, fun _ => CV.vs_len V z, fun _ => CV.ones_spec h1 V, hp⟩
  have := xbk (CV.vs V z).toArray () rfl n
  rw [xN4 (V := V) (z := z) rfl n] at this
  exact this
noncomputable def xQn (P : Program) (t : TypeId) : Option (Nat × Nat × List CV) := match xn0 P t with
  | some (e, b, s, z) => match xOR z with
    | some l => bif Nat.beq l.length s && (Nat.blt 0 s && l.all CV.one) then some (e, b, l) else none
    | none => none
  | none => none
theorem xNu {e b : Nat} {z : List CV} (h : xQn P t = some (e, b, z)) : z.all CV.one = true ∧ 0 < z.length ∧ (∀ n, CV.bds n z) ∧ ∃ inf z0, P.underlying t = some (.slice e) ∧ P.info? e = some inf ∧ inf.size = z.length ∧ inf.bytes = b ∧ inf.zero = some z0 ∧ ∀ V, z0.cells = (CV.vs V z).toArray := by
  unfold xQn at h
  split at h
  · rename_i e' b' s zl hs
    split at h
    · rename_i l hl
      obtain ⟨hc, h⟩ := xMl h
      cases h
      simp only [Bool.and_eq_true] at hc
      have h1 := Nat.eq_of_beq_eq_true hc.1
      have h2 := Nat.le_of_ble_eq_true hc.2.1
      obtain ⟨h3, h4⟩ := xMY hl
      obtain ⟨hu, inf, hin, hsz, hby, hzz⟩ := (xkh hs).h
      have : ∃ z0, inf.zero = some z0 ∧ z0.cells = zl.toArray := by
        cases h : inf.zero with
        | none => rw [h] at hzz; cases hzz
        | some z0 => rw [h] at hzz; exact ⟨z0, rfl, by simpa using hzz⟩
      obtain ⟨z0, hz0, hz1⟩ := this
      exact ⟨hc.2.2, by omega, h4, inf, z0, hu, hin, by rw [hsz, h1], hby, hz0, fun V => by rw [hz1, h3 V]⟩
    · cases h
  · cases h
noncomputable def xPY (P : Program) (σ : CS) (t : TypeId) (n : Nat) (ps : List (Nat × CV)) : Option (CV × CS) := match xQn P t with
  | some (e, _, z) => bif Nat.ble (n * z.length) 16777216 then (match xNP (fun i => some (i * z.length, z.length)) (xOj n z) ps with
    | some cs => σ.newK (.cells cs e true) fun σ' => some (.sl σ.n 0 n n, σ')
    | none => none) else none
  | none => none
theorem xOO {n : Nat} {ps : List (Nat × CV)} (h : xPY P σ t n ps = some r) (hok : σ.ok) (hp : ∀ p ∈ ps, p.2.bd σ.n) : OpS P σ (fun V K => Xt P (Instr.buildSlice t n (ps.map fun p => (p.1, p.2.v V)).toArray) K) r := by
  unfold xPY at h
  split at h
  · rename_i e b z hr
    obtain ⟨h1, h2, h3, inf, z0, hu, hin, hsz, hby, hz0, hz1⟩ := xNu hr
    obtain ⟨hle, h⟩ := xMl h
    have hle := Nat.le_of_ble_eq_true hle
    split at h
    · rename_i cs hcs
      obtain ⟨hl, h⟩ := CS.newK_spec h
      cases h
      obtain ⟨h4, h5⟩ := xMO hcs (xOk (h3 σ.n) n) hp
      refine OpS.new hok hl h4 (fun b => .slice (some ⟨b, 0, none⟩) n n) (by unfold CV.bd; exact Nat.lt_succ_self _) (fun V' h => by simp only [CV.v, h, Nat.add_zero]) fun V F K hK w hw => ?_
      refine ⟨_, _, ?_, hK w.heap.size _ (hw.alloc _)⟩
      have hzv : (zeroValue e).run P w = .ok z0 w := by simp [zeroValue, typeInfo, hin, hz0]
      have hsize : (sizeOf e).run P w = .ok z.length w := by simp [sizeOf, typeInfo, hin, hsz]
      have hfill := xeh _ _ _ _ (h5 V)
      simp only [Instr.buildSlice, Sem.run_bind, run_underlying hu, Result.andThen_ok, hsize]
      rw [if_neg (by omega)]
      by_cases hn0 : n * z.length = 0
      · have hn1 : n = 0 := (Nat.mul_eq_zero.1 hn0).resolve_right (by omega)
        subst hn1
        have e0 : (Array.range 0).map (fun x => gI #[] (x % (#[] : Array Value).size)) = (CV.vs V (xOj 0 z)).toArray := xer _
        simp only [hn0, if_true, Sem.run_bind, Sem.run_pure, Result.andThen_ok]
        unfold gI at e0
        rw [e0, hfill]
        simp [newRow]
      · simp only [hn0, if_false, Sem.run_bind, hzv, Result.andThen_ok, Sem.run_pure]
        have hra := xOa (V := V) h1 h2 n
        unfold gI at hra
        rw [hz1 V, hra, hfill]
        simp [newRow]
    · cases h
  · cases h
noncomputable def xRd (P : Program) (σ : CS) (t : TypeId) (a c : CV) : Option (CV × CS) := match a, c with
  | .i _ (.ofNat n), .i _ (.ofNat m) => match xQn P t with
    | some (e, b, z) => bif Nat.ble n m && (Nat.ble (b * m) 281474976710656 && Nat.ble m 9223372036854775807) then σ.newK (.cells (xOj m z) e true) fun σ' => some (.sl σ.n 0 n m, σ') else none
    | none => none
  | _, _ => none
theorem xPQ {a c : CV} (h : xRd P σ t a c = some r) (hok : σ.ok) : OpS P σ (fun V K => Xt P (Instr.makeSlice t (a.v V) (c.v V)) K) r := by
  unfold xRd at h
  split at h
  · rename_i k1 n k2 m
    split at h
    · rename_i e b z hr
      obtain ⟨h1, h2, h3, inf, z0, hu, hin, hsz, hby, hz0, hz1⟩ := xNu hr
      obtain ⟨hle, h⟩ := xMl h
      simp only [Bool.and_eq_true] at hle
      have g1 := Nat.le_of_ble_eq_true hle.1
      have g2 := Nat.le_of_ble_eq_true hle.2.1
      have g3 := Nat.le_of_ble_eq_true hle.2.2
      obtain ⟨hl, h⟩ := CS.newK_spec h
      cases h
      refine OpS.new hok hl (xOk (h3 σ.n) m) (fun b => .slice (some ⟨b, 0, none⟩) n m) (by unfold CV.bd; exact Nat.lt_succ_self _) (fun V' h => by simp only [CV.v, h, Nat.add_zero]) fun V F K hK w hw => ?_
      refine ⟨_, _, ?_, hK w.heap.size _ (hw.alloc _)⟩
      have hzv : ∀ w, (zeroValue e).run P w = .ok z0 w := fun w => by simp [zeroValue, typeInfo, hin, hz0]
      have hsize : ∀ w, (sizeOf e).run P w = .ok z.length w := fun w => by simp [sizeOf, typeInfo, hin, hsz]
      have hinfo : ∀ w, (typeInfo e).run P w = .ok inf w := fun w => by simp [typeInfo, hin]
      have hwn : IntKind.i64.wrap (n : Int) = n := by apply Go.IntWalk.i64_in <;> omega
      have hwm : IntKind.i64.wrap (m : Int) = m := by apply Go.IntWalk.i64_in <;> omega
      show (Instr.makeSlice t (.int k1 (n : Int)) (.int k2 (m : Int))).run P w = _
      simp only [Instr.makeSlice, Sem.run_bind, run_underlying hu, Result.andThen_ok, asInt, asIntOf, Sem.run_pure, hinfo, hwn, hwm]
      have hbig : ((m : Int) < 0 || (inf.bytes : Int) * (m : Int) > 2 ^ 48) = false := by
        rw [hby]
        have : ((b * m : Nat) : Int) ≤ 281474976710656 := by omega
        rw [Int.natCast_mul] at this
        simp only [Bool.or_eq_false_iff, decide_eq_false_iff_not]
        omega
      have hcond : (((m : Int) < 0 || (inf.bytes : Int) * (m : Int) > 2 ^ 48) || decide ((n : Int) < 0) || decide ((n : Int) > (m : Int))) = false := by
        rw [hbig]; simp; omega
      simp only [hcond, Bool.false_eq_true, if_false, Sem.run_bind, run_askRoom, Result.andThen_ok, hsize]
      by_cases hn0 : (m : Int).toNat * z.length = 0
      · have hn1 : m = 0 := by simpa using (Nat.mul_eq_zero.1 hn0).resolve_right (by omega)
        subst hn1
        simp only [hn0, if_true]
        have e0 : (Array.range 0).map (fun x => gI #[] (x % (#[] : Array Value).size)) = (CV.vs V (xOj 0 z)).toArray := xer _
        have hn2 : n = 0 := by omega
        subst hn2
        unfold gI at e0
        simp only [Sem.run_bind, Sem.run_pure, Result.andThen_ok]
        rw [e0]
        simp [newRow]
      · simp only [hn0, if_false, Sem.run_bind, hzv, Result.andThen_ok, Sem.run_pure]
        have := xOa (V := V) h1 h2 m
        unfold gI at this
        rw [hz1 V, show (m : Int).toNat = m from rfl, this]
        simp [newRow]
    · cases h
  · cases h
end
section
variable {P : Program} {σ σ' : CS} {V : Vl} {F : List Xc} {v x y u : CV} {t ty : TypeId} {r : CV × CS} {k : Nat} {b : CB} {w : World}
theorem xNH (hw : Sat w (xMp P σ V :: F)) (hk : σ.h.get k = some b) (hl : k < Lim) : ∃ o, b.is P V k o ∧ Sat w (blk (V.β k) o :: xMp P (σ.put k none) V :: F) :=
  Tr.openH (X := fun w => ∃ o, b.is P V k o ∧ Sat w (blk (V.β k) o :: xMp P (σ.put k none) V :: F)) hk hl (fun o ho w hw => ⟨o, ho, hw⟩) w hw
theorem xPw (hw : Sat w (xMp P σ V :: F)) (hk : σ.h.get k = some b) : ∃ o, w.heap[V.β k]? = some o ∧ b.is P V k o := by
  obtain ⟨R, _, S, _, hh, _⟩ := hw
  exact (hh.1 k b hk).2
noncomputable def xNF (σ : CS) (s : Nat) : CV → Option (Nat × List CV)
  | .sn => some (0, [])
  | .sq _ _ _ => some (0, [])
  | .sl k o n _ => match σ.h.get k with
    | some (.cells vs _ _) => xQH o (n * s) vs fun l => some (n, l)
    | _ => none
  | .s z => bif Nat.beq s 1 then some (z.size, z.data.toList.map fun b => .i .u8 b.toNat) else none
  | _ => none
theorem xOo {s m : Nat} {l : List CV} (h : xNF σ s x = some (m, l)) : l.length = m * s := by
  unfold xNF at h
  split at h
  · cases h; simp
  · cases h; simp
  · split at h
    · obtain ⟨hc, h⟩ := xMF h
      cases h
      rw [List.length_take, List.length_drop]; omega
    · cases h
  · obtain ⟨hc, h⟩ := xMl h
    have := Nat.eq_of_beq_eq_true hc
    subst this
    cases h
    rw [List.length_map, Nat.mul_one]; rfl
  · cases h
theorem xPp {s m : Nat} {l : List CV} (h : xNF σ s x = some (m, l)) (hok : σ.ok) : CV.bds σ.n l := by
  unfold xNF at h
  split at h
  · cases h; exact fun _ hx => by cases hx
  · cases h; exact fun _ hx => by cases hx
  · split at h
    · rename_i vs _ _ hk
      obtain ⟨hc, h⟩ := xMF h
      cases h
      have hb : CV.bds σ.n vs := (hok.2 _ _ hk).2
      exact fun y hy => hb y (List.mem_of_mem_drop (List.mem_of_mem_take hy))
    · cases h
  · obtain ⟨hc, h⟩ := xMl h
    cases h
    intro y hy
    obtain ⟨b, _, rfl⟩ := List.mem_map.1 hy
    unfold CV.bd; trivial
  · cases h
theorem xNo {vs : List CV} {sp : List Value} {o n : Nat} {T : TypeId} {a : Nat} (hh : w.heap[a]? = some (.cells (CV.vs V vs ++ sp).toArray T (0, 0))) (hl : o + n ≤ vs.length) (w' : World) (hw' : w'.heap = w.heap) : (loadCells ⟨a, o, none⟩ n).run P w' = .ok (CV.vs V ((vs.drop o).take n)).toArray w' := by
  have hln : ((vs.drop o).take n).length = n := by rw [List.length_take, List.length_drop]; omega
  have := JN (P := P) (w := w') (a := ⟨a, o, none⟩) (CV.vs V ((vs.drop o).take n)) 0 #[] (fun j hj => by
    rw [CV.vs_len, hln] at hj
    have hg : vs[o + j]? = some vs[o + j] := List.getElem?_eq_getElem (by omega)
    have e : (CV.vs V ((vs.drop o).take n))[j]? = some ((vs[o + j]).v V) := by
      rw [CV.vs_map, List.getElem?_map, List.getElem?_take_of_lt hj, List.getElem?_drop, hg]; rfl
    have e3 : (CV.vs V ((vs.drop o).take n))[j]'(by rw [CV.vs_len, hln]; exact hj) = (vs[o + j]).v V := by
      have := List.getElem?_eq_getElem (l := CV.vs V ((vs.drop o).take n)) (i := j) (by rw [CV.vs_len, hln]; exact hj)
      rw [e] at this; exact (Option.some.inj this).symm
    rw [e3, Nat.zero_add, ZG]
    have e2 := CV.vs_get V hg sp
    simp only [World.cell?, hw', hh, Option.isSome_none, Bool.false_eq_true, if_false, List.getElem?_toArray, e2])
  rw [CV.vs_len, hln] at this
  simpa [loadCells] using this
theorem xMG {s m : Nat} {l : List CV} (h : xNF σ s x = some (m, l)) (hw : Sat w (xMp P σ V :: F)) : ∀ w', w'.heap = w.heap → (Builtin.lenOf (x.v V)).run P w' = .ok m w' ∧ (Builtin.firstCells s m (x.v V)).run P w' = .ok (CV.vs V l).toArray w' := by
  unfold xNF at h
  split at h
  · cases h
    intro w' _
    simp [CV.v, Builtin.lenOf, Builtin.firstCells, CV.vs]
  · rename_i k o d
    cases h
    intro w' _
    simp [CV.v, Builtin.lenOf, Builtin.firstCells, CV.vs, loadCells, loadCellsFrom]
  · rename_i k o n c
    split at h
    · rename_i vs T ex hk
      obtain ⟨hc, h⟩ := xMF h
      cases h
      obtain ⟨ob, hh, sp, rfl, _, _⟩ := xPw hw hk
      intro w' hw'
      refine ⟨by simp [CV.v, Builtin.lenOf], ?_⟩
      show (loadCells ⟨V.β k, o, none⟩ (m * s)).run P w' = _
      exact xNo hh hc w' hw'
    · cases h
  · rename_i z
    obtain ⟨hc, h⟩ := xMl h
    have := Nat.eq_of_beq_eq_true hc
    subst this
    cases h
    intro w' _
    refine ⟨by simp [CV.v, Builtin.lenOf], ?_⟩
    have e : z.extract 0 z.size = z := by
      have := QK z.data.toList 0 z.size
      rw [xLG, List.drop_zero, show List.take z.size z.data.toList = z.data.toList from List.take_of_length_le (Nat.le_of_eq rfl), xLG] at this
      exact this
    simp only [CV.v, Builtin.firstCells, e, Sem.run_pure, CV.vs_map]
    congr 1
    apply Array.ext'
    simp [CV.v]
  · cases h
noncomputable def xQq (P : Program) (t : TypeId) : Bool := match P.underlying t with
  | some (.slice _) => true
  | some .string => true
  | _ => false
theorem xNr (h : xQq P t = true) : ∃ d, P.underlying t = some d ∧ ∀ k, d ≠ .int k := by
  unfold xQq at h
  split at h
  · rename_i e hu; exact ⟨_, hu, fun k h => by cases h⟩
  · rename_i hu; exact ⟨_, hu, fun k h => by cases h⟩
  · cases h
theorem xNi {T T2 ty e sz : Nat} {a : Addr} {n c m : Nat} {x : Value} {vs : List Value} {w w' : World} (hu : P.underlying T = some (.slice e)) (hu2 : xQq P T2 = true) (hsize : ∀ w, (sizeOf e).run P w = .ok sz w)
    (hxl : (Builtin.lenOf x).run P w = .ok m w) (hroom : n + m ≤ c) (hx : (Builtin.firstCells sz m x).run P w = .ok vs.toArray w) (hst : (storeCells (a.add (n * sz)) vs 0).run P w = .ok () w') :
    (Builtin.append_ #[T, T2] ty #[.slice (some a) n c, x]).run P w = .ok (.slice (some a) (n + m) c) w' := by
  obtain ⟨d, hu2, hd⟩ := xNr hu2
  have hz : (d matches .int _) = false := by cases d <;> first | rfl | exact absurd rfl (hd _)
  simp only [Builtin.append_, Sem.run_bind, List.getElem?_toArray, List.getElem?_cons_zero, List.getElem?_cons_succ, run_underlying hu, Result.andThen_ok, hsize, run_underlying hu2, Sem.run_pure, hz, Bool.false_eq_true, if_false, hxl, hroom, if_true, Bool.not_false, hx]
  simp [hst]
theorem xMQ {T T2 ty e sz : Nat} {a : Option Addr} {n c m : Nat} {x : Value} {us vs : List Value} {w : World} {inf : TypeInfo} {z0 : Value} (hu : P.underlying T = some (.slice e)) (hu2 : xQq P T2 = true) (hin : P.info? e = some inf) (hsz : inf.size = sz) (hz0 : inf.zero = some z0)
    (hroom : ¬ n + m ≤ c) (hb : 0 < inf.bytes) (hlen : (2 * (n + m) + 1000) * inf.bytes ≤ 2 ^ 48) (hxl : (Builtin.lenOf x).run P w = .ok m w) (hx : ∀ w', w'.heap = w.heap → (Builtin.firstCells sz m x).run P w' = .ok vs.toArray w') (hv : ∀ w', w'.heap = w.heap → (Builtin.firstCells sz n (.slice a n c)).run P w' = .ok us.toArray w') :
    ∃ N, n + m ≤ N ∧ (Builtin.append_ #[T, T2] ty #[.slice a n c, x]).run P w = .ok (.slice (some ⟨w.heap.size, 0, none⟩) (n + m) N) (w.drew.alloc (.cells (us ++ vs ++ (Builtin.zeroCells z0.cells (N - (n + m))).toList).toArray e (0, 0))) := by
  obtain ⟨d, hu2, hd⟩ := xNr hu2
  have hz : (d matches .int _) = false := by cases d <;> first | rfl | exact absurd rfl (hd _)
  have hsize : ∀ w, (sizeOf e).run P w = .ok sz w := fun w => by simp [sizeOf, typeInfo, hin, hsz]
  have hinfo : ∀ w, (typeInfo e).run P w = .ok inf w := fun w => by simp [typeInfo, hin]
  have hzv : ∀ w, (zeroValue e).run P w = .ok z0 w := fun w => by simp [zeroValue, typeInfo, hin, hz0]
  have hnext := xkE (n + m) c (by omega)
  have hnb : ¬ (Builtin.nextslicecap (n + m) c * inf.bytes > 2 ^ 48) := by
    have := Nat.le_trans (Nat.mul_le_mul_right _ hnext) hlen
    omega
  have hnz : inf.bytes ≠ 0 := by omega
  let q := Question.appendCap (n + m) c e
  let N := q.cut (w.tape w.drawn q)
  have hbound : 2 * (n + m) + 1000 ≤ 2 ^ 48 := Nat.le_trans (Nat.le_mul_of_pos_right _ hb) hlen
  have hcap : n + m ≤ N := by show _ ≤ Question.cut _ _; simp only [q, Question.cut]; omega
  refine ⟨N, hcap, ?_⟩
  have hchoose : (choose (Question.appendCap (n + m) c e)).run P w = .ok N w.drew := by rw [run_choose]; rfl
  have h1 := hx w.drew rfl
  have h2 := hv w.drew rfl
  simp only [Builtin.append_, Sem.run_bind, List.getElem?_toArray, List.getElem?_cons_zero, List.getElem?_cons_succ, run_underlying hu, Result.andThen_ok, hsize, run_underlying hu2, Sem.run_pure, hz, Bool.false_eq_true, if_false, hxl, hroom, hinfo, Bool.not_false, if_true]
  rw [if_neg (by simp [hnz])]
  simp only [Sem.run_bind, hinfo, Result.andThen_ok]
  rw [if_neg hnb]
  simp only [Sem.run_bind, hchoose, hinfo, Result.andThen_ok, run_askRoom, h1, h2, hzv, newRow, run_newObj, Sem.run_pure]
  rw [show (us ++ vs ++ (Builtin.zeroCells z0.cells (N - (n + m))).toList).toArray = us.toArray ++ vs.toArray ++ Builtin.zeroCells z0.cells (N - (n + m)) by apply Array.ext'; simp]
  rfl
noncomputable def xOB (σ : CS) (e : TypeId) (all : List CV) (need : Nat) (d : Option Nat) : Option (CV × CS) :=
  bif Nat.blt σ.n 4294967295 then (match d with
    | some k => Tri.setK σ.h k none fun h => Tri.setK h σ.n (some (.cells all e false)) fun h => fN (σ.n + 1) fun n => some (.sl σ.n 0 need need, ⟨n, h⟩)
    | none => Tri.setK σ.h σ.n (some (.cells all e false)) fun h => fN (σ.n + 1) fun n => some (.sl σ.n 0 need need, ⟨n, h⟩)) else none
noncomputable def xRn (P : Program) (σ : CS) (t t2 : TypeId) (x y : CV) : Option (CV × CS) := match xQn P t with
  | some (e, b, z) => match xNF σ z.length y with
    | some (m, new) => bif Nat.blt 0 b && (new.all CV.one && xQq P t2) then (match x with
      | .sn => bif Nat.beq m 0 then some (.sn, σ) else bif Nat.ble ((2 * m + 1000) * b) 281474976710656 then xOB σ e new m none else none
      | .sl k o n c => match σ.h.get k with
        | some (.cells vs T ex) =>
          bif Nat.ble (n + m) c then (bif Nat.ble (o + (n + m) * z.length) vs.length then xNz vs (o + n * z.length) new fun vs => Tri.setK σ.h k (some (.cells vs T ex)) fun h => fN (n + m) fun nm => some (.sl k o nm c, ⟨σ.n, h⟩) else none)
          else bif Nat.ble ((2 * (n + m) + 1000) * b) 281474976710656 && Nat.ble (o + n * z.length) vs.length then (bif ex then fL ((vs.drop o).take (n * z.length) ++ new) fun all => fN (n + m) fun nm => xOB σ e all nm none
            else bif Nat.beq o 0 && (Nat.beq vs.length (c * z.length) && Nat.beq T e) then fL (vs.take (n * z.length) ++ new) fun all => fN (n + m) fun nm => xOB σ e all nm (some k) else none) else none
        | _ => none
      | _ => none) else none
    | none => none
  | none => none
noncomputable def CS.less (σ : CS) : Option Nat → CS
  | some k => σ.put k none
  | none => σ
theorem xNe {e : TypeId} {all : List CV} {need : Nat} {d : Option Nat} (h : xOB σ e all need d = some r) : σ.n < Lim ∧ r = (.sl σ.n 0 need need, (σ.less d).new (.cells all e false)) := by
  unfold xOB at h
  obtain ⟨h1, h⟩ := xMl h
  refine ⟨Nat.le_of_ble_eq_true h1, ?_⟩
  split at h
  · rw [Tri.setK_id, Tri.setK_id, xMB] at h; cases h; rfl
  · rw [Tri.setK_id, xMB] at h; cases h; rfl
theorem xNf {e : TypeId} {all : List CV} {need N a : Nat} {sp : List Value} {K : Value → WP} (hok : σ.ok) (hl : σ.n < Lim) (hb : CV.bds σ.n all) (hN : need ≤ N) (hsp : sp.length = (N - need) * P.cellsOf e) (hw : Sat w (blk a (.cells (CV.vs V all ++ sp).toArray e (0, 0)) :: xMp P σ V :: F))
    (hK : ∀ V', Ext σ.n V V' → Tr (xMp P (σ.new (.cells all e false)) V' :: F) (K ((CV.sl σ.n 0 need need).v V'))) : K (.slice (some ⟨a, 0, none⟩) need N) w :=
  Tr.newH (b := .cells all e false) hok hl (N - need) a (fun V' he _ h2 => ⟨sp, by rw [CV.vs_ext he hb], by rw [h2]; exact hsp, fun h => by cases h⟩) (fun V' he h1 h2 => by
    have := hK V' he
    simp only [CV.v, h1, h2, Nat.add_sub_cancel' hN] at this
    exact this) w hw
theorem xPS (vs us : List Value) (xs : List Value) (h : xs.length ≤ us.length) : ZM (vs ++ us) vs.length xs = vs ++ xs ++ us.drop xs.length := by
  rw [Wu vs us xs h, List.append_assoc]
theorem xPI {t2 : TypeId} (h : xRn P σ t t2 x y = some r) (hok : σ.ok) (hx : x.bd σ.n) : OpS P σ (fun V K => Xt P (Builtin.append_ #[t, t2] ty #[x.v V, y.v V]) K) r := by
  unfold xRn at h
  split at h
  · rename_i e b z hr
    obtain ⟨_, hz0, _, inf, z0, hu, hin, hsz, hby, hzz, hzc⟩ := xNu hr
    have hsize : ∀ w, (sizeOf e).run P w = .ok z.length w := fun w => by simp [sizeOf, typeInfo, hin, hsz]
    have hce : P.cellsOf e = z.length := by simp [Program.cellsOf, hin, hsz]
    have hzl : ∀ N, (Builtin.zeroCells z0.cells N).toList.length = N * z.length := fun N => by
      rw [Array.length_toList, xeW, hzc ⟨fun n => n, fun n => n, fun _ => ⟨.ready, none, 0, #[], #[], .skip, .skip, 0⟩⟩, List.size_toArray, CV.vs_len]
    split at h
    · rename_i m new hs
      obtain ⟨hc, h⟩ := xMl h
      simp only [Bool.and_eq_true] at hc
      obtain ⟨hb0, hone, hT2⟩ := hc
      have hb0 : 0 < inf.bytes := by rw [hby]; exact Nat.le_of_ble_eq_true hb0
      have hnl := xOo hs
      have hnb := xPp hs hok
      split at h
      · -- nil
        cases hm : Nat.beq m 0 with
        | true =>
          rw [hm, cond_true] at h; cases h
          have hm := Nat.eq_of_beq_eq_true hm
          subst hm
          refine ⟨hok, Nat.le_refl _, by unfold CV.bd; trivial, fun V F K hK w hw => ⟨.slice none 0 0, w, ?_, hK V (Ext.refl _ _) w hw⟩⟩
          obtain ⟨h1, h2⟩ := xMG (P := P) (V := V) hs hw w rfl
          obtain ⟨d, hu2, hd⟩ := xNr hT2
          have hz : (d matches .int _) = false := by cases d <;> first | rfl | exact absurd rfl (hd _)
          show (Builtin.append_ #[t, t2] ty #[.slice none 0 0, y.v V]).run P w = _
          simp only [Builtin.append_, Sem.run_bind, List.getElem?_toArray, List.getElem?_cons_zero, List.getElem?_cons_succ, run_underlying hu, Result.andThen_ok, hsize, run_underlying hu2, Sem.run_pure, Bool.false_eq_true, if_false, h1]
          simp [h2]
        | false =>
          rw [hm, cond_false] at h
          obtain ⟨hle, h⟩ := xMl h
          have hle := Nat.le_of_ble_eq_true hle
          obtain ⟨hl, rfl⟩ := xNe h
          have hm0 : m ≠ 0 := fun e => by subst e; cases hm
          refine ⟨CS.new_ok hok hl (CV.bds_mono (Nat.le_succ _) hnb), Nat.le_succ _, by unfold CV.bd; exact Nat.lt_succ_self _, fun V F K hK w hw => ?_⟩
          have hrun := xMG (P := P) (V := V) hs hw
          obtain ⟨N, hN, hg⟩ := xMQ (T2 := t2) (ty := ty) (a := none) (n := 0) (c := 0) (x := y.v V) (us := []) (vs := CV.vs V new) (w := w) hu hT2 hin hsz hzz (by omega) hb0 (by rw [hby, Nat.zero_add]; exact hle) (hrun w rfl).1 (fun w' hw' => (hrun w' hw').2) (fun w' _ => by simp [Builtin.firstCells])
          rw [Nat.zero_add] at hg hN
          refine ⟨_, _, hg, ?_⟩
          rw [List.nil_append]
          exact xNf (σ := σ) hok hl hnb hN (by rw [hzl, hce]) (hw.drew.alloc _) hK
      · rename_i k o n c _
        split at h
        · rename_i vs T ex hk
          have hkl := CS.ok_lt hok hk
          have hbd : CV.bds σ.n vs := (hok.2 k _ hk).2
          cases hroom : Nat.ble (n + m) c with
          | true =>
            rw [hroom, cond_true] at h
            obtain ⟨hle, h⟩ := xMl h
            have hle := Nat.le_of_ble_eq_true hle
            have hroom := Nat.le_of_ble_eq_true hroom
            rw [xMW, Tri.setK_id, xMB] at h
            cases h
            have hb' : CB.bd σ.n (.cells (xNc vs (o + n * z.length) new) T ex) := xM1 vs _ new hbd hnb
            rw [Nat.add_mul] at hle
            refine ⟨CS.ok_put hok (Nat.le_refl _) hok.1 (hok.2 k _ hk).1 hb', Nat.le_refl _, by unfold CV.bd at *; exact hx, fun V F K hK w hw => ?_⟩
            have hrun := xMG (P := P) (V := V) hs hw
            obtain ⟨ob, ⟨sp, rfl, hsp, hex⟩, hwo⟩ := xNH hw hk hkl
            have hst := Zo (P := P) (T := T) (CV.vs V new) (CV.vs V vs ++ sp) (V.β k) (o + n * z.length) 0 (blk (V.β k) (.cells (CV.vs V vs ++ sp).toArray T (0, 0)) :: xMp P (σ.put k none) V :: F) _ w
              (fun v hv => by have := CV.ones_spec hone V; rw [List.all_eq_true] at this; exact this v hv) (by rw [CV.vs_len, List.length_append, CV.vs_len]; omega) hwo Upd.here
            obtain ⟨w', hr, hs'⟩ := hst
            rw [Nat.add_zero, ← xMX V sp vs (o + n * z.length) new (by omega)] at hs'
            refine ⟨.slice (some ⟨V.β k, o, none⟩) (n + m) (c + V.κ k), w', xNi hu hT2 hsize (hrun w rfl).1 (by omega) (hrun w rfl).2 (by rw [ZG]; exact hr), ?_⟩
            exact Tr.backH (b := .cells (xNc vs (o + n * z.length) new) T ex) hkl ⟨sp, rfl, hsp, hex⟩ (hK V (Ext.refl _ _)) w' hs'
          | false =>
            rw [hroom, cond_false] at h
            obtain ⟨hle, h⟩ := xMl h
            simp only [Bool.and_eq_true] at hle
            obtain ⟨hle, hlo⟩ := hle
            have hle := Nat.le_of_ble_eq_true hle
            have hlo := Nat.le_of_ble_eq_true hlo
            have hroom : ¬ n + m ≤ c := fun h => by rw [Nat.ble_eq_true_of_le h] at hroom; cases hroom
            have hold : ∀ {V : Vl} {F : List Xc} {w : World}, Sat w (xMp P σ V :: F) → ∀ w', w'.heap = w.heap → (Builtin.firstCells z.length n ((CV.sl k o n c).v V)).run P w' = .ok (CV.vs V ((vs.drop o).take (n * z.length))).toArray w' := fun {V F w} hw w' hw' => by
              obtain ⟨ob, hh, sp, rfl, _, _⟩ := xPw hw hk
              exact xNo hh hlo w' hw'
            have hbold : CV.bds σ.n ((vs.drop o).take (n * z.length)) := fun y hy => hbd y (List.mem_of_mem_drop (List.mem_of_mem_take hy))
            have hball : CV.bds σ.n ((vs.drop o).take (n * z.length) ++ new) := fun y hy => (List.mem_append.1 hy).elim (hbold y) (hnb y)
            cases hexb : ex with
            | true =>
              rw [hexb, cond_true, xN8, xMB] at h
              obtain ⟨hl, rfl⟩ := xNe h
              refine ⟨CS.new_ok hok hl (CV.bds_mono (Nat.le_succ _) hball), Nat.le_succ _, by unfold CV.bd; exact Nat.lt_succ_self _, fun V F K hK w hw => ?_⟩
              have hrun := xMG (P := P) (V := V) hs hw
              have hκ : V.κ k = 0 := by
                obtain ⟨ob, hh, sp, _, _, h3⟩ := xPw hw hk
                exact h3 hexb
              obtain ⟨N, hN, hg⟩ := xMQ (T2 := t2) (ty := ty) (a := some ⟨V.β k, o, none⟩) (n := n) (c := c + V.κ k) (x := y.v V) (vs := CV.vs V new) (w := w) hu hT2 hin hsz hzz (by omega) hb0 (by rw [hby]; exact hle) (hrun w rfl).1 (fun w' hw' => (hrun w' hw').2) (hold hw)
              refine ⟨_, _, hg, ?_⟩
              have e1 : CV.vs V ((vs.drop o).take (n * z.length)) ++ CV.vs V new = CV.vs V ((vs.drop o).take (n * z.length) ++ new) := by rw [CV.vs_map, CV.vs_map, CV.vs_map, List.map_append]
              rw [e1]
              exact xNf (σ := σ) hok hl hball hN (by rw [hzl, hce]) (hw.drew.alloc _) hK
            | false =>
              rw [hexb, cond_false] at h
              obtain ⟨hc2, h'⟩ := xMl h
              clear h
              simp only [Bool.and_eq_true] at hc2
              have ho := Nat.eq_of_beq_eq_true hc2.1
              have hvl := Nat.eq_of_beq_eq_true hc2.2.1
              have hTe := Nat.eq_of_beq_eq_true hc2.2.2
              subst ho; subst hTe
              rw [xN8, xMB] at h'
              obtain ⟨hl, rfl⟩ := xNe h'
              rw [List.drop_zero] at hball hold hbold
              have hok1 : (σ.put k none).ok := CS.ok_del hok hkl
              refine ⟨CS.new_ok hok1 hl (CV.bds_mono (Nat.le_succ _) hball), Nat.le_succ _, by unfold CV.bd; exact Nat.lt_succ_self _, fun V F K hK w hw => ?_⟩
              have hrun := xMG (P := P) (V := V) hs hw
              have e1 : CV.vs V (vs.take (n * z.length)) ++ CV.vs V new = CV.vs V (vs.take (n * z.length) ++ new) := by rw [CV.vs_map, CV.vs_map, CV.vs_map, List.map_append]
              obtain ⟨ob, ⟨sp, rfl, hsp, hex⟩, hwo⟩ := xNH hw hk hkl
              by_cases hrm : n + m ≤ c + V.κ k
              · have hmul : (n + m) * z.length ≤ (c + V.κ k) * z.length := Nat.mul_le_mul_right _ hrm
                rw [Nat.add_mul, Nat.add_mul] at hmul
                have hst := Zo (P := P) (T := T) (CV.vs V new) (CV.vs V vs ++ sp) (V.β k) (n * z.length) 0 (blk (V.β k) (.cells (CV.vs V vs ++ sp).toArray T (0, 0)) :: xMp P (σ.put k none) V :: F) _ w
                  (fun v hv => by have := CV.ones_spec hone V; rw [List.all_eq_true] at this; exact this v hv) (by rw [CV.vs_len, List.length_append, CV.vs_len, hsp, hce]; omega) hwo Upd.here
                obtain ⟨w', hr, hs'⟩ := hst
                refine ⟨.slice (some ⟨V.β k, 0, none⟩) (n + m) (c + V.κ k), w', xNi hu hT2 hsize (hrun w rfl).1 hrm (hrun w rfl).2 (by rw [ZG, Nat.zero_add]; exact hr), ?_⟩
                have e2 : CV.vs V vs ++ sp = CV.vs V (vs.take (n * z.length)) ++ (CV.vs V (vs.drop (n * z.length)) ++ sp) := by
                  rw [← List.append_assoc]
                  congr 1
                  rw [CV.vs_map, CV.vs_map, CV.vs_map, ← List.map_append, List.take_append_drop]
                have hl1 : (CV.vs V (vs.take (n * z.length))).length = n * z.length := by rw [CV.vs_len, List.length_take]; omega
                have hl2 : (CV.vs V (vs.drop (n * z.length)) ++ sp).length = (c + V.κ k) * z.length - n * z.length := by rw [List.length_append, CV.vs_len, List.length_drop, hsp, hce, hvl, Nat.add_mul]; omega
                rw [Nat.add_zero, e2] at hs'
                have e3 := xPS (CV.vs V (vs.take (n * z.length))) (CV.vs V (vs.drop (n * z.length)) ++ sp) (CV.vs V new) (by rw [hl2, CV.vs_len, Nat.add_mul]; omega)
                rw [hl1] at e3
                rw [e3, e1] at hs'
                exact xNf (σ := σ.put k none) hok1 hl hball hrm (by rw [List.length_drop, hl2, CV.vs_len, hnl, hce, ← Nat.sub_mul, ← Nat.sub_mul]; congr 1; omega) hs' hK
              · obtain ⟨N, hN, hg⟩ := xMQ (T2 := t2) (ty := ty) (a := some ⟨V.β k, 0, none⟩) (n := n) (c := c + V.κ k) (x := y.v V) (vs := CV.vs V new) (w := w) hu hT2 hin hsz hzz hrm hb0 (by rw [hby]; exact hle) (hrun w rfl).1 (fun w' hw' => (hrun w' hw').2) (hold hw)
                refine ⟨_, _, hg, ?_⟩
                rw [e1]
                exact xNf (σ := σ.put k none) hok1 hl hball hN (by rw [hzl, hce]) (hwo.tail.drew.alloc _) hK
        · cases h
      · cases h
    · cases h
  · cases h
end
section
variable {P : Program} {σ σ' : CS} {V : Vl} {F : List Xc} {v x y u : CV} {t ty : TypeId} {r : CV × CS} {k : Nat} {b : CB} {w : World}
noncomputable def xQx (P : Program) (σ : CS) (t : TypeId) (x y : CV) : Option (CV × CS) := match xsw P t with
  | some s => match x with
    | .sn => match xNF σ s y with
      | some _ => some (.i .i64 0, σ)
      | none => none
    | .sl k o n _ => match xNF σ s y with
      | some (m, l) => match σ.h.get k with
        | some (.cells vs T ex) => bif l.all CV.one && Nat.ble (o + min m n * s) vs.length then fL (l.take (min m n * s)) fun l => xNz vs o l fun vs => Tri.setK σ.h k (some (.cells vs T ex)) fun h => fN (min m n) fun q => some (.i .i64 (.ofNat q), ⟨σ.n, h⟩) else none
        | _ => none
      | none => none
    | _ => none
  | none => none
theorem xN6 {s m q : Nat} {l : List CV} (h : xNF σ s x = some (m, l)) (hq : q ≤ m) (hw : Sat w (xMp P σ V :: F)) : (Builtin.firstCells s q (x.v V)).run P w = .ok (CV.vs V (l.take (q * s))).toArray w := by
  unfold xNF at h
  split at h
  · cases h
    have : q = 0 := by omega
    subst this
    simp [CV.v, Builtin.firstCells, CV.vs]
  · rename_i k o d
    cases h
    have : q = 0 := by omega
    subst this
    simp [CV.v, Builtin.firstCells, CV.vs, loadCells, loadCellsFrom]
  · rename_i k o n c
    split at h
    · rename_i vs T ex hk
      obtain ⟨hc, h⟩ := xMF h
      cases h
      obtain ⟨ob, hh, sp, rfl, _, _⟩ := xPw hw hk
      show (loadCells ⟨V.β k, o, none⟩ (q * s)).run P w = _
      have hm : q * s ≤ m * s := Nat.mul_le_mul_right _ hq
      have := xNo (P := P) (o := o) (n := q * s) hh (by omega) w rfl
      rw [List.take_take, Nat.min_eq_left hm]
      exact this
    · cases h
  · rename_i z
    obtain ⟨hc, h⟩ := xMl h
    have := Nat.eq_of_beq_eq_true hc
    subst this
    cases h
    have e : z.extract 0 q = Zh (z.data.toList.take q) := by
      have := QK z.data.toList 0 q
      rw [xLG, List.drop_zero] at this
      exact this
    simp only [CV.v, Builtin.firstCells, e, Sem.run_pure, CV.vs_map]
    congr 1
    apply Array.ext'
    simp [CV.v, Zh, List.map_take]
    rfl
  · cases h
theorem xOZ {t2 : TypeId} (h : xQx P σ t x y = some r) (hok : σ.ok) : OpS P σ (fun V K => Xt P (Builtin.copy_ #[t, t2] ty #[x.v V, y.v V]) K) r := by
  unfold xQx at h
  split at h
  · rename_i s hs
    obtain ⟨e, inf, hu, hin, hsz⟩ := Jk hs
    have hsize : ∀ w, (sizeOf e).run P w = .ok s w := fun w => by simp [sizeOf, typeInfo, hin, hsz]
    split at h
    · split at h
      · rename_i q hq
        obtain ⟨m, l⟩ := q
        cases h
        refine ⟨hok, Nat.le_refl _, by unfold CV.bd; trivial, fun V F K hK w hw => ⟨.int .i64 0, w, ?_, hK V (Ext.refl _ _) w hw⟩⟩
        have h1 := (xMG (P := P) (V := V) hq hw w rfl).1
        have h2 := xN6 (P := P) (V := V) hq (Nat.zero_le m) hw
        rw [Nat.zero_mul, List.take_zero] at h2
        show (Builtin.copy_ #[t, t2] ty #[.slice none 0 0, y.v V]).run P w = _
        simp only [Builtin.copy_, Sem.run_bind, List.getElem?_toArray, List.getElem?_cons_zero, List.getElem?_cons_succ, run_underlying hu, Result.andThen_ok, h1, hsize, Nat.min_zero, h2]
        simp [goInt, CV.vs]
      · cases h
    · rename_i k o n c
      split at h
      · rename_i m l hq
        split at h
        · rename_i vs T ex hk
          have hkl := CS.ok_lt hok hk
          have hbd : CV.bds σ.n vs := (hok.2 k _ hk).2
          obtain ⟨hc, h⟩ := xMl h
          simp only [Bool.and_eq_true] at hc
          have hle := Nat.le_of_ble_eq_true hc.2
          rw [xN8, xMW, Tri.setK_id, xMB] at h
          cases h
          have hnl := xOo hq
          have hbl : CV.bds σ.n (l.take (min m n * s)) := fun y hy => xPp hq hok y (List.mem_of_mem_take hy)
          have hll : (l.take (min m n * s)).length = min m n * s := by
            rw [List.length_take, hnl]
            exact Nat.min_eq_left (Nat.mul_le_mul_right _ (Nat.min_le_left _ _))
          have hone : (l.take (min m n * s)).all CV.one = true := by
            rw [List.all_eq_true]
            exact fun y hy => by have := hc.1; rw [List.all_eq_true] at this; exact this y (List.mem_of_mem_take hy)
          have hb' : CB.bd σ.n (.cells (xNc vs o (l.take (min m n * s))) T ex) := xM1 vs _ _ hbd hbl
          refine ⟨CS.ok_put hok (Nat.le_refl _) hok.1 (hok.2 k _ hk).1 hb', Nat.le_refl _, by unfold CV.bd; trivial, fun V F K hK w hw => ?_⟩
          have h1 := (xMG (P := P) (V := V) hq hw w rfl).1
          have h2 := xN6 (P := P) (V := V) hq (Nat.min_le_left m n) hw
          obtain ⟨ob, ⟨sp, rfl, hsp, hex⟩, hwo⟩ := xNH hw hk hkl
          have hst := Zo (P := P) (T := T) (CV.vs V (l.take (min m n * s))) (CV.vs V vs ++ sp) (V.β k) o 0 (blk (V.β k) (.cells (CV.vs V vs ++ sp).toArray T (0, 0)) :: xMp P (σ.put k none) V :: F) _ w
            (fun v hv => by have := CV.ones_spec hone V; rw [List.all_eq_true] at this; exact this v hv) (by rw [CV.vs_len, hll, List.length_append, CV.vs_len]; omega) hwo Upd.here
          obtain ⟨w', hr, hs'⟩ := hst
          rw [Nat.add_zero, ← xMX V sp vs o _ (by rw [hll]; exact hle)] at hs'
          refine ⟨.int .i64 (Int.ofNat (min m n)), w', ?_, Tr.backH (b := .cells (xNc vs o (l.take (min m n * s))) T ex) hkl ⟨sp, rfl, hsp, hex⟩ (hK V (Ext.refl _ _)) w' hs'⟩
          show (Builtin.copy_ #[t, t2] ty #[.slice (some ⟨V.β k, o, none⟩) n (c + V.κ k), y.v V]).run P w = _
          simp only [Builtin.copy_, Sem.run_bind, List.getElem?_toArray, List.getElem?_cons_zero, List.getElem?_cons_succ, run_underlying hu, Result.andThen_ok, h1, hsize]
          have h2' : (Builtin.firstCells s (Nat.min m n) (y.v V)).run P w = .ok (CV.vs V (l.take (min m n * s))).toArray w := h2
          rw [h2']
          simp only [Result.andThen_ok, hr, Sem.run_pure, goInt]
          rfl
        · cases h
      · cases h
    · cases h
  · cases h
theorem xOJ {cap : Nat} {l : List CV} {o : Obj} {k a : Nat} {X : WP} (h : CB.is P V k (.ch cap l) o) (hx : Tr (chn a cap (CV.vs V l) :: F) X) : Tr (blk a o :: F) X := fun w hw => by
  obtain ⟨s, r, rfl⟩ := h
  exact hx w (Sat.ex_iff.2 ⟨(s, r), hw⟩)
theorem xN2 {cap : Nat} {l : List CV} {k a : Nat} {X : WP} (hx : ∀ o, CB.is P V k (.ch cap l) o → Tr (blk a o :: F) X) : Tr (chn a cap (CV.vs V l) :: F) X := fun w hw => by
  obtain ⟨s, r, h⟩ := Sat.chnGet hw
  exact hx _ ⟨s, r, rfl⟩ w h
noncomputable def xRe (P : Program) (σ : CS) (t : TypeId) : CV → Option (CV × CS)
  | .i .i64 (.ofNat n) => bif chB P t && Nat.ble n 100000 then σ.newK (.ch n []) fun σ' => some (.cn σ.n, σ') else none
  | _ => none
theorem xPN (h : xRe P σ t x = some r) (hok : σ.ok) : OpS P σ (fun V K => Xt P (Instr.makeChan t (x.v V)) K) r := by
  unfold xRe at h
  split at h
  · rename_i n
    obtain ⟨hc, h⟩ := xMl h
    rw [Bool.and_eq_true] at hc
    have hT : ChT P t := xLB hc.1
    obtain ⟨hl, h⟩ := CS.newK_spec h
    cases h
    refine ⟨CS.new_ok hok hl (fun x hx => by cases hx), Nat.le_succ _, by unfold CV.bd; exact Nat.lt_succ_self _, fun V F K hK => Tr.makeChan (Nat.le_of_ble_eq_true hc.2) fun m => ?_⟩
    refine xN2 (P := P) (V := V) (k := σ.n) (l := []) fun o ho => Tr.newH (b := .ch n []) hok hl 0 m (fun V' _ _ _ => ho) fun V' he h1 _ => ?_
    have := hK V' he
    simp only [CV.v, h1] at this
    exact this
  · cases h
noncomputable def xRt (P : Program) (σ : CS) (t : TypeId) : CV → Option CV
  | .sl _ _ n _ => match xsw P t with
    | some _ => some (.i .i64 (.ofNat n))
    | none => none
  | .sn => match xsw P t with
    | some _ => some (.i .i64 0)
    | none => none
  | .sq _ _ _ => match xsw P t with
    | some _ => some (.i .i64 0)
    | none => none
  | .m k => match xt8 P t with
    | some _ => match σ.h.get k with
      | some (.mp es) => some (.i .i64 (.ofNat es.length))
      | _ => none
    | none => none
  | .cn k => bif chB P t then (match σ.h.get k with
    | some (.ch _ l) => some (.i .i64 (.ofNat l.length))
    | _ => none) else none
  | x => match x.gr1 with
    | some z => xM7 P (Builtin.len_ #[t] t #[z])
    | none => none
theorem xRb {T ty ty' : TypeId} {z : Value} : Builtin.len_ #[T] ty #[z] = Builtin.len_ #[T] ty' #[z] := rfl
theorem xPz (h : xRt P σ t x = some v) (hok : σ.ok) : OpS P σ (fun V K => Xq P (Builtin.len_ #[t] ty #[x.v V]) K) (v, σ) := by
  unfold xRt at h
  have sl : ∀ {s : Nat}, xsw P t = some s → ∀ (a : Option Addr) (n c : Nat) (w : World), (Builtin.len_ #[t] ty #[.slice a n c]).run P w = .ok (.int .i64 (n : Int)) w := fun {s} hs a n c w => by
    obtain ⟨e, inf, hu, hin, hsz⟩ := Jk hs
    simp [Builtin.len_, run_underlying hu, goInt]
  split at h
  · split at h
    · rename_i s hs
      cases h
      exact OpS.val hok (by unfold CV.bd; trivial) fun V K w hK => ⟨_, sl hs _ _ _ w, hK⟩
    · cases h
  · split at h
    · rename_i s hs
      cases h
      exact OpS.val hok (by unfold CV.bd; trivial) fun V K w hK => ⟨_, sl hs _ _ _ w, hK⟩
    · cases h
  · split at h
    · rename_i s hs
      cases h
      exact OpS.val hok (by unfold CV.bd; trivial) fun V K w hK => ⟨_, sl hs _ _ _ w, hK⟩
    · cases h
  · split at h
    · rename_i z hz
      obtain ⟨key, elem, hu, hk, _⟩ := (xnn hz).h
      split at h
      · rename_i es hes
        cases h
        refine ⟨hok, Nat.le_refl _, by unfold CV.bd; trivial, fun V F K hK w hw => ⟨_, ?_, hK V (Ext.refl _ _) w hw⟩⟩
        obtain ⟨o, hh, ms, c, rfl, hm⟩ := xPw hw hes
        have : ms.length = es.length := by simpa using congrArg List.length hm
        show (Builtin.len_ #[t] ty #[.map (some (V.β _))]).run P w = _
        simp [Builtin.len_, run_underlying hu, JP hh, goInt, this, CV.v]
      · cases h
    · cases h
  · obtain ⟨hc, h⟩ := xMl h
    have hT : ChT P t := xLB hc
    split at h
    · rename_i cap l hk
      cases h
      have hkl := CS.ok_lt hok hk
      refine ⟨hok, Nat.le_refl _, by unfold CV.bd; trivial, fun V F K hK => Tr.openH hk hkl fun o ho => ?_⟩
      refine xOJ ho (Tr.lenChan ?_)
      refine xN2 (P := P) fun o' ho' => Tr.backH0 hk hkl ho' ?_
      rw [CV.vs_len]
      exact hK V (Ext.refl _ _)
    · cases h
  · split at h
    · rename_i z hz
      obtain ⟨q, h1, h2⟩ := xMy h
      refine OpS.gen (s := Builtin.len_ #[t] t #[z]) (fun V K w hK => ?_) hok h1 h2
      show Xq P (Builtin.len_ #[t] ty #[x.v V]) K w
      rw [CV.gr1_spec hz V, xRb (ty' := t)]; exact hK
    · cases h
noncomputable def xNy (k : Int) : List (Int × CV) → Option CV
  | [] => none
  | (j, v) :: r => if k = j then some v else xNy k r
noncomputable def xOI (k : Int) (v : CV) : List (Int × CV) → List (Int × CV)
  | [] => [(k, v)]
  | (j, u) :: r => if k = j then (k, v) :: r else (j, u) :: xOI k v r
noncomputable def mV (V : Vl) (es : List (Int × CV)) : List (Int × Value) := es.map fun x => (x.1, x.2.v V)
theorem xPn (V : Vl) (k : Int) : ∀ es : List (Int × CV), find k (mV V es) = (xNy k es).map (CV.v V)
  | [] => rfl
  | (j, v) :: r => by
    show find k ((j, v.v V) :: mV V r) = _
    simp only [find, xNy]
    split
    · rfl
    · exact xPn V k r
theorem xQz (V : Vl) (k : Int) (v : CV) : ∀ es : List (Int × CV), ZC k (v.v V) (mV V es) = mV V (xOI k v es)
  | [] => rfl
  | (j, u) :: r => by
    show ZC k (v.v V) ((j, u.v V) :: mV V r) = _
    simp only [ZC, xOI]
    split
    · rfl
    · show (j, u.v V) :: ZC k (v.v V) (mV V r) = _
      rw [xQz V k v r]; rfl
theorem xOG {n : Nat} {k : Int} : ∀ {es : List (Int × CV)} {v : CV}, xNy k es = some v → (∀ x ∈ es, x.2.bd n) → v.bd n
  | [], _, h, _ => by cases h
  | (j, u) :: r, v, h, hb => by
    simp only [xNy] at h
    split at h
    · cases h; exact hb (j, u) (List.mem_cons_self ..)
    · exact xOG h fun x hx => hb x (List.mem_cons_of_mem _ hx)
theorem xPe {n : Nat} {k : Int} {v : CV} (hv : v.bd n) : ∀ {es : List (Int × CV)}, (∀ x ∈ es, x.2.bd n) → ∀ x ∈ xOI k v es, x.2.bd n
  | [], _, x, hx => by simp only [xOI, List.mem_singleton] at hx; subst hx; exact hv
  | (j, u) :: r, hb, x, hx => by
    simp only [xOI] at hx
    split at hx
    · rcases List.mem_cons.1 hx with rfl | hx
      · exact hv
      · exact hb x (List.mem_cons_of_mem _ hx)
    · rcases List.mem_cons.1 hx with rfl | hx
      · exact hb (j, u) (List.mem_cons_self ..)
      · exact xPe hv (fun y hy => hb y (List.mem_cons_of_mem _ hy)) x hx
theorem xQ2 {es : List (Int × CV)} {o : Obj} {k : Nat} (h : CB.is P V k (.mp es) o) {a : Nat} {X : WP} (hx : Tr (mp a (mV V es) :: F) X) : Tr (blk a o :: F) X := fun w hw => by
  obtain ⟨ms, c, rfl, hm⟩ := h
  refine hx w (Sat.mapHead (A := blk a (.map ms.toArray c)) (B := mp a (mV V es)) (fun R S (hb : _ ∧ _) => ⟨hb.1, ms, c, hb.2, ?_⟩) hw)
  rw [hm, mV, List.map_map]; rfl
theorem xQf {es : List (Int × CV)} {a : Nat} {X : WP} {k : Nat} (hx : ∀ o, CB.is P V k (.mp es) o → Tr (blk a o :: F) X) : Tr (mp a (mV V es) :: F) X := fun w hw => by
  obtain ⟨R, h1, S, h2, ⟨h3, ms, c, h4, h5⟩, h6⟩ := hw
  exact hx (.map ms.toArray c) ⟨ms, c, rfl, by rw [h5, mV, List.map_map]; rfl⟩ w ⟨R, h1, S, h2, ⟨h3, h4⟩, h6⟩
noncomputable def xQh (P : Program) (σ : CS) (t : TypeId) (x i : CV) (ok : Bool) : Option CV := match xt8 P t with
  | some ze => match ofV ze with
    | some z => match i with
      | .i .i64 j => match x with
        | .m k => match σ.h.get k with
          | some (.mp es) => match xNy j es with
            | some v => some (bif ok then .tp [v, .b true] else v)
            | none => some (bif ok then .tp [z, .b false] else z)
          | _ => none
        | .mn => some (bif ok then .tp [z, .b false] else z)
        | _ => none
      | _ => none
    | none => none
  | none => none
theorem xND {n : Nat} {ok b : Bool} {v : CV} (h : v.bd n) : CV.bd n (bif ok then .tp [v, .b b] else v) := by
  cases ok
  · exact h
  · show CV.bd n (.tp [v, .b b])
    unfold CV.bd
    intro x hx
    rcases List.mem_cons.1 hx with rfl | hx
    · exact h
    · rw [List.mem_singleton.1 hx]; unfold CV.bd; trivial
theorem xO7 {ok b : Bool} {v : CV} : (CV.v V (bif ok then .tp [v, .b b] else v)) = if ok = true then .tuple #[v.v V, .bool b] else v.v V := by
  cases ok <;> rfl
theorem xO4 {i : CV} {ok : Bool} (h : xQh P σ t x i ok = some v) (hok : σ.ok) : OpS P σ (fun V K => Xq P (Instr.lookup t (x.v V) (i.v V) ok) K) (v, σ) := by
  unfold xQh at h
  split at h
  · rename_i ze hze
    have hT : xc2 P t ze := xnn hze
    split at h
    · rename_i z hz
      obtain ⟨hz1, hz2⟩ := xMv hz
      split at h
      · rename_i j
        split at h
        · rename_i k
          split at h
          · rename_i es hes
            have hkl := CS.ok_lt hok hes
            have hbd : ∀ x ∈ es, x.2.bd σ.n := (hok.2 _ _ hes).2
            have fin : ∀ {u : CV} {bb : Bool}, v = (bif ok then .tp [u, .b bb] else u) → u.bd σ.n → (∀ V, ((xNy j es).map (CV.v V)).getD ze = u.v V) → (xNy j es).isSome = bb → OpS P σ (fun V K => Xq P (Instr.lookup t (.map (some (V.β k))) (.int .i64 j) ok) K) (v, σ) := fun {u bb} hv hub h1 h2 => by
              subst hv
              refine ⟨hok, Nat.le_refl _, xND hub, fun V F K hK => Tr.openH hes hkl fun o ho => xQ2 ho ?_⟩
              refine Tr.lookup (Has.here (A := mp (V.β k) (mV V es))) ?_
              refine xQf (P := P) (k := k) fun o' ho' => Tr.backH0 hes hkl ho' ?_
              have := hK V (Ext.refl _ _)
              rw [xO7] at this
              rw [xPn, h1 V, Option.isSome_map, h2]
              exact this
            split at h
            · rename_i q hq
              cases h
              exact fin rfl (xOG hq hbd) (fun V => by rw [hq]; rfl) (by rw [hq]; rfl)
            · rename_i hq
              cases h
              exact fin rfl (hz2 _) (fun V => by rw [hq]; exact (hz1 V).symm) (by rw [hq]; rfl)
          · cases h
        · cases h
          refine ⟨hok, Nat.le_refl _, xND (hz2 _), fun V F K hK => ?_⟩
          refine Tr.lookupNil ?_
          have := hK V (Ext.refl _ _)
          rw [xO7, hz1 V] at this
          exact this
        · cases h
      · cases h
    · cases h
  · cases h
noncomputable def xP0 (P : Program) (σ : CS) (t : TypeId) (x i u : CV) : Option (CV × CS) := match xt8 P t with
  | some _ => match i with
    | .i .i64 j => match x with
      | .m k => match σ.h.get k with
        | some (.mp es) => Tri.setK σ.h k (some (.mp (xOI j u es))) fun h => some (.tp [], ⟨σ.n, h⟩)
        | _ => none
      | _ => none
    | _ => none
  | none => none
theorem xOW {i : CV} (h : xP0 P σ t x i u = some r) (hok : σ.ok) (hu : u.bd σ.n) : OpS P σ (fun V K => Xv P (Instr.mapUpdate t (x.v V) (i.v V) (u.v V)) K) r := by
  unfold xP0 at h
  split at h
  · rename_i ze hze
    have hT : xc2 P t ze := xnn hze
    split at h
    · rename_i j
      split at h
      · rename_i k
        split at h
        · rename_i es hes
          have hkl := CS.ok_lt hok hes
          have hbd : ∀ x ∈ es, x.2.bd σ.n := (hok.2 _ _ hes).2
          rw [Tri.setK_id] at h
          cases h
          have hb' : CB.bd σ.n (.mp (xOI j u es)) := xPe hu hbd
          refine ⟨CS.ok_put hok (Nat.le_refl _) hok.1 (hok.2 k _ hes).1 hb', Nat.le_refl _, CV.bd_u _, fun V F K hK => Tr.openH hes hkl fun o ho => xQ2 ho ?_⟩
          refine Tr.mapUpdate (k := j) (v := u.v V) V6.here ?_
          rw [xQz]
          exact xQf (P := P) (k := k) fun o' ho' => Tr.backH hkl ho' (hK V (Ext.refl _ _))
        · cases h
      · cases h
    · cases h
  · cases h
noncomputable def xRw (σ : CS) : Option (CV × CS) := σ.newK (.mp []) fun σ' => some (.m σ.n, σ')
theorem xPL (h : xRw σ = some r) (hok : σ.ok) : OpS P σ (fun _ K => Xt P (Instr.makeMap t none) K) r := by
  obtain ⟨hl, h⟩ := CS.newK_spec h
  cases h
  refine ⟨CS.new_ok hok hl (fun x hx => by cases hx), Nat.le_succ _, by unfold CV.bd; exact Nat.lt_succ_self _, fun V F K hK => Tr.makeMap fun m => ?_⟩
  refine xQf (P := P) (V := V) (k := σ.n) (es := []) fun o ho => Tr.newH (b := .mp []) hok hl 0 m (fun V' _ _ _ => ?_) fun V' he h1 _ => ?_
  · obtain ⟨ms, c, h1, h2⟩ := ho
    exact ⟨ms, c, h1, h2⟩
  · have := hK V' he
    simp only [CV.v, h1] at this
    exact this
noncomputable def xQP (P : Program) (t : TypeId) : Bool := match P.underlying t with
  | some (.interface _) => false
  | some _ => true
  | none => false
theorem xNY (h : xQP P t = true) : ∃ d, P.underlying t = some d ∧ ∀ m, d ≠ .interface m := by
  unfold xQP at h
  split at h
  · cases h
  · rename_i d hn hu; exact ⟨d, hu, fun m e => by subst e; exact hn m rfl⟩
  · cases h
noncomputable def xRk (P : Program) (t : TypeId) (x : CV) : Option CV := bif xQP P t then some (.it t x) else none
theorem xPs (h : xRk P t x = some v) (hok : σ.ok) (hx : x.bd σ.n) : OpS P σ (fun V K => Xq P (Instr.makeInterface t (x.v V)) K) (v, σ) := by
  unfold xRk at h
  obtain ⟨hc, h⟩ := xMl h
  cases h
  obtain ⟨d, hu, hd⟩ := xNY hc
  refine OpS.val hok (by unfold CV.bd; exact hx) fun V K w hK => ⟨_, ?_, hK⟩
  unfold Instr.makeInterface
  simp only [Sem.run_bind, run_underlying hu, Result.andThen_ok]
  cases d <;> first | rfl | exact absurd rfl (hd _)
end
section
variable {P : Program} {σ σ' : CS} {V : Vl} {F : List Xc} {v x y u : CV} {t ty : TypeId} {r : CV × CS} {k : Nat} {w : World} {e : CE} {E : Env}
theorem OpS.mono {X X' : Vl → (Value → WP) → WP} (h : OpS P σ X' r) (hm : ∀ V K w, X' V K w → X V K w) : OpS P σ X r := ⟨h.1, h.2.1, h.2.2.1, fun V F K hK w hw => hm V K w (h.2.2.2 V F K hK w hw)⟩
theorem xQL (n f : Nat) : (CV.f f [] []).bd n := by simp [CV.bd]
noncomputable def cev (e : CE) (x : Operand) : Option CV := Operand.rec (motive := fun _ => CE → Option CV) (fun t e => Tri.get e t) (fun v _ => ofV v) (fun _ _ => none) (fun f _ => some (.f f [] [])) x e
theorem xMo {o : Operand} (h : cev e o = some v) (he : xMt V e E) : ev E o = v.v V := by
  cases o with
  | tmp t => exact he t v h
  | const c => exact ((xMv h).1 V).symm
  | func f => cases h; rfl
  | global g => cases h
theorem xMs {o : Operand} {n : Nat} (h : cev e o = some v) (he : CE.bd n e) : v.bd n := by
  cases o with
  | tmp t => exact he t v h
  | const c => exact (xMv h).2 n
  | func f => cases h; exact xQL _ _
  | global g => cases h
noncomputable def xMM (e : CE) : List Operand → Option (List CV)
  | [] => some []
  | o :: r => match cev e o with
    | some v => match xMM e r with
      | some l => some (v :: l)
      | none => none
    | none => none
theorem xMz : ∀ {os : List Operand} {l : List CV}, xMM e os = some l → xMt V e E → os.map (ev E) = CV.vs V l
  | [], l, h, _ => by simp only [xMM, Option.some.injEq] at h; subst h; rfl
  | o :: r, l, h, he => by
    unfold xMM at h
    split at h
    · rename_i v hv
      split at h
      · rename_i l' hl
        cases h
        rw [List.map_cons, xMo hv he, xMz hl he]; rfl
      · cases h
    · cases h
theorem xMI {n : Nat} : ∀ {os : List Operand} {l : List CV}, xMM e os = some l → CE.bd n e → CV.bds n l
  | [], l, h, _ => by simp only [xMM, Option.some.injEq] at h; subst h; exact fun _ hx => by cases hx
  | o :: r, l, h, he => by
    unfold xMM at h
    split at h
    · rename_i v hv
      split at h
      · rename_i l' hl
        cases h
        intro x hx
        rcases List.mem_cons.1 hx with rfl | hx
        · exact xMs hv he
        · exact xMI hl he x hx
      · cases h
    · cases h
noncomputable def xOh (e : CE) : List (Nat × Operand) → Option (List (Nat × CV))
  | [] => some []
  | (i, o) :: r => match cev e o with
    | some v => match xOh e r with
      | some l => some ((i, v) :: l)
      | none => none
    | none => none
theorem xNv : ∀ {os : List (Nat × Operand)} {l : List (Nat × CV)}, xOh e os = some l → xMt V e E → (os.map fun x => (x.1, ev E x.2)) = l.map fun x => (x.1, x.2.v V)
  | [], l, h, _ => by simp only [xOh, Option.some.injEq] at h; subst h; rfl
  | (i, o) :: r, l, h, he => by
    unfold xOh at h
    split at h
    · rename_i v hv
      split at h
      · rename_i l' hl
        cases h
        rw [List.map_cons, List.map_cons, xMo hv he, xNv hl he]
      · cases h
    · cases h
theorem xOn {n : Nat} : ∀ {os : List (Nat × Operand)} {l : List (Nat × CV)}, xOh e os = some l → CE.bd n e → ∀ x ∈ l, x.2.bd n
  | [], l, h, _ => by simp only [xOh, Option.some.injEq] at h; subst h; exact fun _ hx => by cases hx
  | (i, o) :: r, l, h, he => by
    unfold xOh at h
    split at h
    · rename_i v hv
      split at h
      · rename_i l' hl
        cases h
        intro x hx
        rcases List.mem_cons.1 hx with rfl | hx
        · exact xMs hv he
        · exact xOn hl he x hx
      · cases h
    · cases h
noncomputable def xPt (P : Program) (t : TypeId) (a b : CV) : Bool := match a, b, P.underlying t with
  | .p _ _, .pn, some (.pointer _) => true
  | .sl _ _ _ _, .sn, some (.slice _) => true
  | .sq _ _ _, .sn, some (.slice _) => true
  | .f _ _ _, .nf, some (.func _ _ _) => true
  | .it _ _, .ni, some (.interface _) => true
  | .m _, .mn, some (.map _ _) => true
  | .cn _, .cz, some (.chan _ _) => true
  | _, _, _ => false
theorem xMZ {a b : CV} (h : xPt P t a b = true) (V : Vl) {x y : Operand} {K : Value → WP} {w : World} : (K (.bool false) w → XO P .eql t x y (a.v V) (b.v V) K w) ∧ (K (.bool true) w → XO P .neq t x y (a.v V) (b.v V) K w) ∧
    (K (.bool false) w → XO P .eql t x y (b.v V) (a.v V) K w) ∧ (K (.bool true) w → XO P .neq t x y (b.v V) (a.v V) K w) := by
  have fin : ∀ {A B : Value}, (∀ d w, (Op.equalIn (d + 1) t A B).run P w = .ok false w) → (∀ op, XO P op t x y A B K w = Xq P (do eqGuard op t x y A B; binOp op t A B) K w) →
      (∀ op w, (eqGuard op t x y A B).run P w = .ok () w) → binOp .eql t A B = (do pure (.bool (← Op.equal t A B))) → binOp .neq t A B = (do pure (.bool (!(← Op.equal t A B)))) →
      (K (.bool false) w → XO P .eql t x y A B K w) ∧ (K (.bool true) w → XO P .neq t x y A B K w) := fun {A B} he hb hg h1 h2 => by
    have he' : (Op.equal t A B).run P w = .ok false w := he 9999 w
    refine ⟨fun hk => ?_, fun hk => ?_⟩
    · rw [hb]
      exact ⟨.bool false, by simp [hg, h1, he'], hk⟩
    · rw [hb]
      exact ⟨.bool true, by simp [hg, h2, he'], hk⟩
  unfold xPt at h
  have comb : ∀ {A B C D : Prop}, A ∧ B → C ∧ D → A ∧ B ∧ C ∧ D := fun h h' => ⟨h.1, h.2, h'.1, h'.2⟩
  split at h
  · rename_i hu
    exact comb (fin (fun d w => by simp [CV.v, Op.equalIn, run_underlying hu]) (fun op => rfl) (fun op w => by cases op <;> simp [eqGuard, CV.v]) rfl rfl) (fin (fun d w => by simp [CV.v, Op.equalIn, run_underlying hu]) (fun op => rfl) (fun op w => by cases op <;> simp [eqGuard, CV.v]) rfl rfl)
  · rename_i hu
    exact comb (fin (fun d w => by simp [CV.v, Op.equalIn, run_underlying hu]) (fun op => rfl) (fun op w => by cases op <;> simp [eqGuard, CV.v]) rfl rfl) (fin (fun d w => by simp [CV.v, Op.equalIn, run_underlying hu]) (fun op => rfl) (fun op w => by cases op <;> simp [eqGuard, CV.v]) rfl rfl)
  · rename_i hu
    exact comb (fin (fun d w => by simp [CV.v, Op.equalIn, run_underlying hu]) (fun op => rfl) (fun op w => by cases op <;> simp [eqGuard, CV.v]) rfl rfl) (fin (fun d w => by simp [CV.v, Op.equalIn, run_underlying hu]) (fun op => rfl) (fun op w => by cases op <;> simp [eqGuard, CV.v]) rfl rfl)
  · rename_i hu
    exact comb (fin (fun d w => by simp [CV.v, Op.equalIn, run_underlying hu]) (fun op => rfl) (fun op w => by cases op <;> simp [eqGuard, CV.v]) rfl rfl) (fin (fun d w => by simp [CV.v, Op.equalIn, run_underlying hu]) (fun op => rfl) (fun op w => by cases op <;> simp [eqGuard, CV.v]) rfl rfl)
  · rename_i hu
    exact comb (fin (fun d w => by simp [CV.v, Op.equalIn, run_underlying hu]) (fun op => rfl) (fun op w => by cases op <;> simp [eqGuard, CV.v]) rfl rfl) (fin (fun d w => by simp [CV.v, Op.equalIn, run_underlying hu]) (fun op => rfl) (fun op w => by cases op <;> simp [eqGuard, CV.v]) rfl rfl)
  · rename_i hu
    exact comb (fin (fun d w => by simp [CV.v, Op.equalIn, run_underlying hu]) (fun op => rfl) (fun op w => by cases op <;> simp [eqGuard, CV.v]) rfl rfl) (fin (fun d w => by simp [CV.v, Op.equalIn, run_underlying hu]) (fun op => rfl) (fun op w => by cases op <;> simp [eqGuard, CV.v]) rfl rfl)
  · rename_i hu
    exact comb (fin (fun d w => by simp [CV.v, Op.equalIn, run_underlying hu]) (fun op => rfl) (fun op w => by cases op <;> simp [eqGuard, CV.v]) rfl rfl) (fin (fun d w => by simp [CV.v, Op.equalIn, run_underlying hu]) (fun op => rfl) (fun op w => by cases op <;> simp [eqGuard, CV.v]) rfl rfl)
  · cases h
noncomputable def xMx (P : Program) (op : BinOp) (t : TypeId) (x y : Operand) (a b : CV) : Option CV := match a, b with
  | .i _ _, .i _ _ => xOT P op t x y a b
  | a, b => bif xPt P t a b || xPt P t b a then (match op with
    | .eql => some (.b false)
    | .neq => some (.b true)
    | _ => none) else xOT P op t x y a b
theorem xNO {op : BinOp} {x y : Operand} {a b : CV} (h : xMx P op t x y a b = some v) (hok : σ.ok) : OpS P σ (fun V K => XO P op t x y (a.v V) (b.v V) K) (v, σ) := by
  unfold xMx at h
  split at h
  · exact xNU h hok
  · cases hn : (xPt P t a b || xPt P t b a) with
    | false => rw [hn, cond_false] at h; exact xNU h hok
    | true =>
      rw [hn, cond_true] at h
      rw [Bool.or_eq_true] at hn
      split at h
      · cases h
        refine OpS.val hok (by unfold CV.bd; trivial) fun V K w hK => ?_
        rcases hn with hn | hn
        · exact (xMZ hn V).1 hK
        · exact (xMZ hn V).2.2.1 hK
      · cases h
        refine OpS.val hok (by unfold CV.bd; trivial) fun V K w hK => ?_
        rcases hn with hn | hn
        · exact (xMZ hn V).2.1 hK
        · exact (xMZ hn V).2.2.2 hK
      · cases h
noncomputable def xPm (P : Program) (op : BinOp) (t : TypeId) (x y : Operand) (k : IntKind) (m n : Int) : Option CV := Option.rec (motive := fun _ => Option CV) (xMx P op t x y (.i k m) (.i k n)) (fun v => some v) (xPu k m n op)
noncomputable def xRJ (P : Program) (op : BinOp) (t : TypeId) (x y : Operand) (b : CV) (k : IntKind) (n : Int) : Option CV := CV.rec (motive_1 := fun _ => Program → BinOp → TypeId → Operand → Operand → IntKind → Int → Option CV) (motive_2 := fun _ => PUnit) (fun _ => fun _ _ _ _ _ _ _ => none) (fun k n => fun P0 o0 t0 x0 y0 k0 m0 => Bool.rec (motive := fun _ => Option CV) none (xPm P0 o0 t0 x0 y0 k0 m0 n) (Nat.beq (kix k0) (kix k))) (fun _ => fun _ _ _ _ _ _ _ => none) (fun _ _ _ _ _ _ _ => none) (fun _ _ => fun _ _ _ _ _ _ _ => none) (fun _ _ _ _ _ _ _ => none) (fun _ _ _ _ => fun _ _ _ _ _ _ _ => none) (fun _ _ _ => fun _ _ _ _ _ _ _ => none) (fun _ _ _ _ _ => fun _ _ _ _ _ _ _ => none) (fun _ => fun _ _ _ _ _ _ _ => none) (fun _ _ _ _ _ _ _ => none) (fun _ _ _ => fun _ _ _ _ _ _ _ => none) (fun _ _ _ _ _ _ _ => none) (fun _ _ => fun _ _ _ _ _ _ _ => none) (fun _ _ => fun _ _ _ _ _ _ _ => none) (fun _ => fun _ _ _ _ _ _ _ => none) (fun _ _ _ _ _ _ _ => none) (fun _ => fun _ _ _ _ _ _ _ => none) (fun _ _ _ _ _ _ _ => none) PUnit.unit (fun _ _ _ _ => PUnit.unit) b P op t x y k n
noncomputable def xQX (P : Program) (op : BinOp) (t : TypeId) (x y : Operand) (a b : CV) : Option CV := CV.rec (motive_1 := fun _ => Program → BinOp → TypeId → Operand → Operand → CV → Option CV) (motive_2 := fun _ => PUnit) (fun x => fun P0 o0 t0 x0 y0 b0 => xMx P0 o0 t0 x0 y0 (.b x) b0) (fun k n => fun P0 o0 t0 x0 y0 b0 => xRJ P0 o0 t0 x0 y0 b0 k n) (fun x => fun P0 o0 t0 x0 y0 b0 => xMx P0 o0 t0 x0 y0 (.s x) b0) (fun P0 o0 t0 x0 y0 b0 => xMx P0 o0 t0 x0 y0 (.pn) b0) (fun k o => fun P0 o0 t0 x0 y0 b0 => xMx P0 o0 t0 x0 y0 (.p k o) b0) (fun P0 o0 t0 x0 y0 b0 => xMx P0 o0 t0 x0 y0 (.sn) b0) (fun k o n d => fun P0 o0 t0 x0 y0 b0 => xMx P0 o0 t0 x0 y0 (.sl k o n d) b0) (fun k o d => fun P0 o0 t0 x0 y0 b0 => xMx P0 o0 t0 x0 y0 (.sq k o d) b0) (fun g a d _ _ => fun P0 o0 t0 x0 y0 b0 => xMx P0 o0 t0 x0 y0 (.f g a d) b0) (fun k => fun P0 o0 t0 x0 y0 b0 => xMx P0 o0 t0 x0 y0 (.y k) b0) (fun P0 o0 t0 x0 y0 b0 => xMx P0 o0 t0 x0 y0 (.nf) b0) (fun t u _ => fun P0 o0 t0 x0 y0 b0 => xMx P0 o0 t0 x0 y0 (.it t u) b0) (fun P0 o0 t0 x0 y0 b0 => xMx P0 o0 t0 x0 y0 (.ni) b0) (fun l _ => fun P0 o0 t0 x0 y0 b0 => xMx P0 o0 t0 x0 y0 (.ag l) b0) (fun l _ => fun P0 o0 t0 x0 y0 b0 => xMx P0 o0 t0 x0 y0 (.tp l) b0) (fun k => fun P0 o0 t0 x0 y0 b0 => xMx P0 o0 t0 x0 y0 (.m k) b0) (fun P0 o0 t0 x0 y0 b0 => xMx P0 o0 t0 x0 y0 (.mn) b0) (fun k => fun P0 o0 t0 x0 y0 b0 => xMx P0 o0 t0 x0 y0 (.cn k) b0) (fun P0 o0 t0 x0 y0 b0 => xMx P0 o0 t0 x0 y0 (.cz) b0) PUnit.unit (fun _ _ _ _ => PUnit.unit) a P op t x y b
theorem xO6 {op : BinOp} {x y : Operand} {k : IntKind} {m n : Int} (h : xPm P op t x y k m n = some v) (hok : σ.ok) : OpS P σ (fun V K => XO P op t x y ((CV.i k m).v V) ((CV.i k n).v V) K) (v, σ) := by
  unfold xPm at h
  cases hc : xPu k m n op with
  | none => rw [hc] at h; exact xNO h hok
  | some v' =>
    rw [hc] at h
    cases h
    obtain ⟨u, h1, h2, h3⟩ := xN0 hc
    refine OpS.val hok (h3 _) fun V K w hK => ?_
    simp only [CV.v, XO, if_true, h1, VF]
    rw [h2 V] at hK
    exact hK
theorem xO8 {op : BinOp} {x y : Operand} {a b : CV} (h : xQX P op t x y a b = some v) (hok : σ.ok) : OpS P σ (fun V K => XO P op t x y (a.v V) (b.v V) K) (v, σ) := by
  cases a with
  | i k m =>
    cases b with
    | i k' n =>
      have h1 : (Bool.rec none (xPm P op t x y k m n) (Nat.beq (kix k) (kix k')) : Option CV) = some v := h
      clear h
      cases hk : Nat.beq (kix k) (kix k') with
      | false => rw [hk] at h1; cases h1
      | true =>
        rw [hk] at h1
        have hk := xPi hk
        subst hk
        exact xO6 h1 hok
    | _ => cases h
  | _ => exact xNO h hok
noncomputable def xRh (P : Program) (a : TypeId) (ok : Bool) : CV → Option CV
  | .it t v => bif xQP P a then (bif Nat.beq t a then some (bif ok then .tp [v, .b true] else v) else bif ok then (match xby P a with
    | some z => match ofV z with
      | some z => some (.tp [z, .b false])
      | none => none
    | none => none) else none) else none
  | _ => none
theorem xPB {a xt : TypeId} {ok : Bool} (h : xRh P a ok x = some v) (hok : σ.ok) (hx : x.bd σ.n) : OpS P σ (fun V K => Xq P (Instr.typeAssert (x.v V) xt a ok) K) (v, σ) := by
  unfold xRh at h
  split at h
  · rename_i t c
    have hc : c.bd σ.n := by unfold CV.bd at hx; exact hx
    obtain ⟨ha, h⟩ := xMl h
    obtain ⟨d, hu, hd⟩ := xNY ha
    cases hb : Nat.beq t a with
    | true =>
      rw [hb, cond_true] at h
      cases h
      have hb := Nat.eq_of_beq_eq_true hb
      subst hb
      refine OpS.val hok (xND hc) fun V K w hK => ⟨_, ?_, hK⟩
      rw [xO7]
      show (Instr.typeAssert (.iface t (c.v V)) xt t ok).run P w = _
      unfold Instr.typeAssert
      simp only [Sem.run_bind, run_underlying hu, Result.andThen_ok]
      cases d <;> first | exact absurd rfl (hd _) | (simp; rfl) | simp
    | false =>
      rw [hb, cond_false] at h
      obtain ⟨h1, h⟩ := xMl h
      subst h1
      split at h
      · rename_i z hz
        split at h
        · rename_i z' hz'
          cases h
          obtain ⟨g1, g2⟩ := xMv hz'
          have hne : ¬ t = a := fun e => by subst e; rw [Nat.beq_refl] at hb; cases hb
          refine OpS.val hok (xND (ok := true) (g2 _)) fun V K w hK => ⟨_, ?_, hK⟩
          have hzv : (zeroValue a).run P w = .ok z w := by
            unfold xby at hz
            cases hi : P.info? a with
            | none => rw [hi] at hz; cases hz
            | some i =>
              rw [hi] at hz
              have hz' : i.zero = some z := hz
              simp [zeroValue, typeInfo, hi, hz']
          show (Instr.typeAssert (.iface t (c.v V)) xt a true).run P w = .ok (.tuple #[z'.v V, .bool false]) w
          rw [g1 V]
          unfold Instr.typeAssert
          simp only [Sem.run_bind, run_underlying hu, Result.andThen_ok]
          cases d <;> first | exact absurd rfl (hd _) | simp [hne, hzv]
        · cases h
      · cases h
  · cases h
abbrev Cl := CV → List CV → CS → Option (CV × CS)
noncomputable def ClS (P : Program) (cl : Cl) : Prop := ∀ f as σ r, cl f as σ = some r → σ.ok → f.bd σ.n → CV.bds σ.n as → OpS P σ (fun V K => XZ P (f.v V) (CV.vs V as).toArray K fun _ => False) r
theorem xOr {f : Value} {as : Array Value} {K : Value → WP} {X : WP} {w : World} (h : XZ P f as K (fun _ => False) w) : XZ P f as K X w := by
  unfold XZ at *
  split at h
  · exact h
  · exact h
  · exact h.elim
noncomputable def xQs (P : Program) (cl : Cl) (σ : CS) (m : String) (as : List CV) : CV → Option (CV × CS)
  | .it t v => match xtP P t m with
    | some f => bif xa1 P f then cl (.f f [] []) (v :: as) σ else none
    | none => none
  | _ => none
theorem xPO {cl : Cl} {m : String} {as : List CV} (h : xQs P cl σ m as x = some r) (hcl : ClS P cl) (hok : σ.ok) (hx : x.bd σ.n) (ha : CV.bds σ.n as) : OpS P σ (fun V K => xrT P (x.v V) m (CV.vs V as).toArray K) r := by
  unfold xQs at h
  split at h
  · rename_i t c
    have hc : c.bd σ.n := by unfold CV.bd at hx; exact hx
    split at h
    · rename_i f hf
      obtain ⟨hn, h⟩ := xMl h
      have := hcl _ _ _ _ h hok (xQL _ _) (fun y hy => by
        rcases List.mem_cons.1 hy with rfl | hy
        · exact hc
        · exact ha y hy)
      refine this.mono fun V K w hK => ?_
      have hM : xjl P t m f := ⟨hf⟩
      have hF : xqo P f := ⟨hn⟩
      show xrT P (.iface t (c.v V)) m _ K w
      rw [xhs, ← xth]
      have hK : FnK P f (#[] ++ (CV.vs V (c :: as)).toArray ++ #[]) K w := hK
      have e : (#[] ++ (CV.vs V (c :: as)).toArray ++ #[] : Array Value) = #[c.v V] ++ (CV.vs V as).toArray := by
        apply Array.ext'; simp [CV.vs]
      rw [e] at hK; exact hK
    · cases h
  · cases h
end
set_option maxHeartbeats 3200000
noncomputable def ret (σ : CS) (o : Option CV) : Option (CV × CS) := Option.rec (motive := fun _ => CS → Option (CV × CS)) (fun _ => none) (fun v σ => some (v, σ)) o σ
theorem xMr {σ : CS} {o : Option CV} {r : CV × CS} (h : ret σ o = some r) : ∃ v, o = some v ∧ r = (v, σ) := by
  cases o with
  | none => cases h
  | some v => cases h; exact ⟨_, rfl, rfl⟩
noncomputable def bd1 {α β : Type} (o : Option α) (f : α → Option β) : Option β := Option.rec (motive := fun _ => (α → Option β) → Option β) (fun _ => none) (fun a f => f a) o f
theorem xMm {α β : Type} {o : Option α} {f : α → Option β} {b : β} (h : bd1 o f = some b) : ∃ a, o = some a ∧ f a = some b := by
  cases o with
  | none => cases h
  | some a => exact ⟨a, rfl, h⟩
noncomputable def xQA (e : CE) : Option Operand → Option (Option CV)
  | none => some none
  | some x => match cev e x with
    | some v => some (some v)
    | none => none
noncomputable def xPq (P : Program) (cl : Cl) (σ : CS) (f : CV) (as : List CV) : Option (CV × CS) := match f with
  | .f _ _ _ => cl f as σ
  | .y _ => cl f as σ
  | _ => none
noncomputable def xQF (P : Program) (σ : CS) (b : Builtin) (ts : Array TypeId) (as : List CV) : Option (CV × CS) := match b with
  | .len => match ts.toList, as with
    | [t], [x] => ret σ (xRt P σ t x)
    | _, _ => none
  | .append => match ts.toList, as with
    | [t, t2], [x, y] => xRn P σ t t2 x y
    | _, _ => none
  | .copy => match ts.toList, as with
    | [t, _], [x, y] => xQx P σ t x y
    | _, _ => none
  | .min => match CV.grs as with
    | some l => ret σ (xM7 P (Builtin.min_ ts 0 l.toArray))
    | none => none
  | .max => match CV.grs as with
    | some l => ret σ (xM7 P (Builtin.max_ ts 0 l.toArray))
    | none => none
  | _ => none
noncomputable def xRr (e : CE) (σ : CS) (u : UnOp) (x : Operand) : Option (CV × CS) := match u with
  | .not => match cev e x with
    | some (.b z) => some (.b (!z), σ)
    | _ => none
  | .neg => match cev e x with
    | some (.i k n) => some (.i k (k.wrap (0 - n)), σ)
    | _ => none
  | _ => none
noncomputable def xP6 (e : CE) (σ : CS) (c a b : Operand) : Option (CV × CS) := match cev e c with
  | some (.b true) => bd1 (cev e b) fun _ => ret σ (cev e a)
  | some (.b false) => bd1 (cev e a) fun _ => ret σ (cev e b)
  | _ => none
noncomputable def xRG (e : CE) (σ : CS) (x : Operand) : Option (CV × CS) := bd1 (cev e x) fun v => asP v fun k o => some (.p k o, σ)
noncomputable def xRc (e : CE) (σ : CS) (x : Operand) (i : Nat) : Option (CV × CS) := match cev e x with
  | some (.tp l) => ret σ l[i]?
  | _ => none
noncomputable def xQ0 (P : Program) (e : CE) (σ : CS) (op : BinOp) (t : TypeId) (x y : Operand) : Option (CV × CS) := bd1 (cev e x) fun a => bd1 (cev e y) fun b => ret σ (xQX P op t x y a b)
noncomputable def xPV (P : Program) (e : CE) (σ : CS) (s d : TypeId) (x : Operand) : Option (CV × CS) := bif Nat.beq s d then none else bd1 (cev e x) fun a => match a.gr1 with
  | some z => ret σ (xM7 P (convert s d z))
  | none => none
noncomputable def xP7 (P : Program) (e : CE) (σ : CS) (t : TypeId) (a : Operand) : Option (CV × CS) := bd1 (cev e a) fun a => ret σ (xQe P σ t a)
noncomputable def xQY (P : Program) (e : CE) (σ : CS) (s : TypeId) (x : Operand) (f : Nat) : Option (CV × CS) := bd1 (cev e x) fun a => ret σ (xQ5 P s f a)
noncomputable def xQS (P : Program) (e : CE) (σ : CS) (s : TypeId) (x : Operand) (f : Nat) : Option (CV × CS) := bd1 (cev e x) fun a => ret σ (xRi P s f a)
noncomputable def xQZ (P : Program) (e : CE) (σ : CS) (t : TypeId) (x i : Operand) : Option (CV × CS) := bd1 (cev e x) fun a => bd1 (cev e i) fun i => ret σ (xQv P t a i)
noncomputable def xQ6 (P : Program) (e : CE) (σ : CS) (t : TypeId) (x i : Operand) : Option (CV × CS) := bd1 (cev e x) fun a => bd1 (cev e i) fun i => ret σ (xRl P t a i)
noncomputable def xP1 (P : Program) (e : CE) (σ : CS) (t : TypeId) (x : Operand) (lo hi : Option Operand) : Option Operand → Option (CV × CS)
  | none => bd1 (cev e x) fun a => bd1 (xQA e lo) fun lo => bd1 (xQA e hi) fun hi => ret σ (xRg P t a lo hi)
  | some _ => none
noncomputable def xQi (P : Program) (e : CE) (σ : CS) (t : TypeId) (x i : Operand) (ok : Bool) : Option (CV × CS) := bd1 (cev e x) fun a => bd1 (cev e i) fun i => ret σ (xQh P σ t a i ok)
noncomputable def xQW (P : Program) (e : CE) (σ : CS) (t : TypeId) (ps : Array (Nat × Operand)) : Option (CV × CS) := bd1 (xOh e ps.toList) fun l => ret σ (xOQ P t l)
noncomputable def xQV (P : Program) (e : CE) (σ : CS) (t : TypeId) (x : Operand) : Option (CV × CS) := bd1 (cev e x) fun a => ret σ (xRk P t a)
noncomputable def xRm (e : CE) (σ : CS) (as cs : Array Operand) : Fn → Option (CV × CS)
  | .func f => bd1 (xMM e as.toList) fun as => bd1 (xMM e cs.toList) fun cs => some (.f f as cs, σ)
  | _ => none
noncomputable def xQ7 (P : Program) (e : CE) (σ : CS) (x : Operand) (a : TypeId) (ok : Bool) : Option (CV × CS) := bd1 (cev e x) fun x => ret σ (xRh P a ok x)
noncomputable def xRQ (P : Program) (e : CE) (σ : CS) (t : TypeId) (a x : Operand) : Option (CV × CS) := bd1 (cev e a) fun a => bd1 (cev e x) fun x => xQc P σ t a x
noncomputable def xQ3 (e : CE) (σ : CS) (t : TypeId) (x : Operand) : Option (CV × CS) := bd1 (cev e x) fun x => xRC σ t x
noncomputable def xQT (P : Program) (e : CE) (σ : CS) (t : TypeId) (n : Nat) (ps : Array (Nat × Operand)) : Option (CV × CS) := bd1 (xOh e ps.toList) fun l => xPY P σ t n l
noncomputable def xQp (σ : CS) : Option Operand → Option (CV × CS)
  | none => xRw σ
  | some _ => none
noncomputable def xQ4 (P : Program) (e : CE) (σ : CS) (t : TypeId) (n : Operand) : Option (CV × CS) := bd1 (cev e n) fun n => xRe P σ t n
noncomputable def xQ8 (P : Program) (e : CE) (σ : CS) (t : TypeId) (l c : Operand) : Option (CV × CS) := bd1 (cev e l) fun l => bd1 (cev e c) fun c => xRd P σ t l c
noncomputable def xQ1 (P : Program) (e : CE) (σ : CS) (t : TypeId) (m k x : Operand) : Option (CV × CS) := bd1 (cev e m) fun m => bd1 (cev e k) fun k => bd1 (cev e x) fun x => xP0 P σ t m k x
noncomputable def xRy (P : Program) (cl : Cl) (e : CE) (σ : CS) (as : Array Operand) : Operand → Option (CV × CS)
  | .func f => bd1 (xMM e as.toList) fun as => cl (.f f [] []) as σ
  | .tmp t => bd1 (e.get t) fun f => bd1 (xMM e as.toList) fun as => xPq P cl σ f as
  | _ => none
noncomputable def xRx (P : Program) (cl : Cl) (e : CE) (σ : CS) (x : Operand) (m : String) (as : Array Operand) : Option (CV × CS) := bd1 (cev e x) fun x => bd1 (xMM e as.toList) fun as => xQs P cl σ m as x
noncomputable def xRB (P : Program) (e : CE) (σ : CS) (b : Builtin) (ts : Array TypeId) (as : Array Operand) : Option (CV × CS) := bd1 (xMM e as.toList) fun as => xQF P σ b ts as
noncomputable def xQU (P : Program) (cl : Cl) (e : CE) (σ : CS) (as : Array Operand) (ts : Array TypeId) : Callee → Option (CV × CS)
  | .value f => xRy P cl e σ as f
  | .invoke x m => xRx P cl e σ x m as
  | .builtin b => xRB P e σ b ts as
noncomputable def xRI (P : Program) (cl : Cl) (o : Op) (e : CE) (σ : CS) : Option (CV × CS) := match o with
  | .move x => ret σ (cev e x)
  | .assign x => ret σ (cev e x)
  | .pick c a b => xP6 e σ c a b
  | .unOp u _ x => xRr e σ u x
  | .nilCheck x => xRG e σ x
  | .extract x i => xRc e σ x i
  | .binOp op t x y _ => xQ0 P e σ op t x y
  | .convert s d x => xPV P e σ s d x
  | .load t a => xP7 P e σ t a
  | .fieldAddr s x f => xQY P e σ s x f
  | .field t x f => xQS P e σ t x f
  | .indexAddr t x i => xQZ P e σ t x i
  | .index t x i => xQ6 P e σ t x i
  | .slice t x lo hi m => xP1 P e σ t x lo hi m
  | .lookup t x i ok => xQi P e σ t x i ok
  | .build t ps => xQW P e σ t ps
  | .makeInterface t x => xQV P e σ t x
  | .makeFunc f as cs => xRm e σ as cs f
  | .typeAssert x _ a ok => xQ7 P e σ x a ok
  | .store t a x => xRQ P e σ t a x
  | .alloc t => xOd P σ t
  | .box t x => xQ3 e σ t x
  | .buildSlice t n ps => xQT P e σ t n ps
  | .makeMap _ r => xQp σ r
  | .makeChan t n => xQ4 P e σ t n
  | .makeSlice t l c => xQ8 P e σ t l c
  | .mapUpdate t m k x => xQ1 P e σ t m k x
  | .call c => xQU P cl e σ c.args c.argTypes c.callee
  | _ => none
noncomputable def cop (P : Program) (cl : Cl) (o : Op) (e : CE) (σ : CS) : Option (CV × CS) := Op.rec (motive := fun _ => Program → Cl → CE → CS → Option (CV × CS)) (fun x _ _ e σ => ret σ (cev e x)) (fun x _ _ e σ => ret σ (cev e x)) (fun c a b _ _ e σ => xP6 e σ c a b) (fun t P _ _ σ => xOd P σ t) (fun t x _ _ e σ => xQ3 e σ t x) (fun t ps P _ e σ => xQW P e σ t ps) (fun t n ps P _ e σ => xQT P e σ t n ps) (fun _ _ _ _ _ _ _ _ => none) (fun t a P _ e σ => xP7 P e σ t a) (fun t a x P _ e σ => xRQ P e σ t a x) (fun _ _ _ _ _ => none) (fun _ _ _ _ _ => none) (fun x _ _ e σ => xRG e σ x) (fun op t x y _ P _ e σ => xQ0 P e σ op t x y) (fun u _ x _ _ e σ => xRr e σ u x) (fun s d x P _ e σ => xPV P e σ s d x) (fun _ _ _ _ _ _ => none) (fun t x P _ e σ => xQV P e σ t x) (fun f as cs _ _ e σ => xRm e σ as cs f) (fun _ r _ _ _ σ => xQp σ r) (fun t n P _ e σ => xQ4 P e σ t n) (fun t l c P _ e σ => xQ8 P e σ t l c) (fun t x lo hi m P _ e σ => xP1 P e σ t x lo hi m) (fun t x f P _ e σ => xQY P e σ t x f) (fun t x f P _ e σ => xQS P e σ t x f) (fun t x i P _ e σ => xQZ P e σ t x i) (fun t x i P _ e σ => xQ6 P e σ t x i) (fun t x i ok P _ e σ => xQi P e σ t x i ok) (fun t m k x P _ e σ => xQ1 P e σ t m k x) (fun _ _ _ _ _ _ _ => none) (fun _ _ _ _ _ _ _ _ => none) (fun _ _ _ _ _ _ => none) (fun _ _ _ _ _ _ => none) (fun _ _ _ _ _ => none) (fun x _ a ok P _ e σ => xQ7 P e σ x a ok) (fun x i _ _ e σ => xRc e σ x i) (fun c P cl e σ => xQU P cl e σ c.args c.argTypes c.callee) (fun _ _ _ _ _ => none) (fun _ _ _ _ _ => none) (fun _ _ _ _ _ => none) (fun _ _ _ _ _ _ => none) (fun _ _ _ _ _ _ _ => none) (fun _ _ _ _ _ _ => none) o P cl e σ
section
variable {P : Program} {σ σ' : CS} {V : Vl} {F : List Xc} {v x y u : CV} {t ty : TypeId} {r : CV × CS} {k : Nat} {w : World} {e : CE} {E : Env} {cl : Cl}
theorem xN9 {o : Option Operand} {q : Option CV} (h : xQA e o = some q) (he : xMt V e E) : o.map (ev E) = q.map (CV.v V) := by
  unfold xQA at h
  split at h
  · cases h; rfl
  · split at h
    · rename_i v hv
      cases h
      rw [Option.map_some, xMo hv he]; rfl
    · cases h
theorem xM3 {as : Array Operand} {l : List CV} (h : as.toList.map (ev E) = CV.vs V l) : as.map (ev E) = (CV.vs V l).toArray := by
  rw [← h]; apply Array.ext'; simp
theorem xOD {ps : Array (Nat × Operand)} {l : List (Nat × CV)} (h : (ps.toList.map fun x => (x.1, ev E x.2)) = l.map fun x => (x.1, x.2.v V)) : (ps.map fun x => (x.1, ev E x.2)) = (l.map fun x => (x.1, x.2.v V)).toArray := by
  rw [← h]; apply Array.ext'; simp
theorem xRo {α : Type} {a : Array α} {x : α} (h : a.toList = [x]) : a = #[x] := by apply Array.ext'; rw [h]
theorem xRP {α : Type} {a : Array α} {x y : α} (h : a.toList = [x, y]) : a = #[x, y] := by apply Array.ext'; rw [h]
theorem xPA {b : Builtin} {ts : Array TypeId} {as : List CV} {as' : Array Operand} (h : xQF P σ b ts as = some r) (hok : σ.ok) (ha : CV.bds σ.n as) :
    OpS P σ (fun V K w => ∀ E, as'.map (ev E) = (CV.vs V as).toArray → opX P (.call ⟨.builtin b, as', ts⟩) ty E K w) r := by
  unfold xQF at h
  split at h
  · split at h
    · rename_i t x ht
      obtain ⟨v, hv, rfl⟩ := xMr h
      refine (xPz (ty := ty) hv hok).mono fun V K w hK E hE => ?_
      show Xq P (Builtin.len_ ts ty (as'.map (ev E))) K w
      rw [hE, xRo ht]; exact hK
    · cases h
  · split at h
    · rename_i t t2 x y ht
      refine (xPI (ty := ty) h hok (ha x (List.mem_cons_self ..))).mono fun V K w hK E hE => ?_
      show Xt P (Builtin.append_ ts ty (as'.map (ev E))) K w
      rw [hE, xRP ht]; exact hK
    · cases h
  · split at h
    · rename_i t t2 x y ht
      refine (xOZ (t2 := t2) (ty := ty) h hok).mono fun V K w hK E hE => ?_
      show Xt P (Builtin.copy_ ts ty (as'.map (ev E))) K w
      rw [hE, xRP ht]; exact hK
    · cases h
  · split at h
    · rename_i l hl
      obtain ⟨v, hv, rfl⟩ := xMr h
      obtain ⟨q, h1, h2⟩ := xMy hv
      refine OpS.gen (s := Builtin.min_ ts 0 l.toArray) (fun V K w hK E hE => ?_) hok h1 h2
      show Xq P (Builtin.min_ ts ty (as'.map (ev E))) K w
      rw [hE, CV.grs_spec hl V]; exact hK
    · cases h
  · split at h
    · rename_i l hl
      obtain ⟨v, hv, rfl⟩ := xMr h
      obtain ⟨q, h1, h2⟩ := xMy hv
      refine OpS.gen (s := Builtin.max_ ts 0 l.toArray) (fun V K w hK E hE => ?_) hok h1 h2
      show Xq P (Builtin.max_ ts ty (as'.map (ev E))) K w
      rw [hE, CV.grs_spec hl V]; exact hK
    · cases h
  · cases h
theorem xQ9 {o : Op} : cop P cl o e σ = xRI P cl o e σ := by cases o <;> rfl
theorem xOA {o : Op} (h : cop P cl o e σ = some r) (hcl : ClS P cl) (hok : σ.ok) (he : CE.bd σ.n e) : OpS P σ (fun V K w => ∀ E, xMt V e E → opX P o ty E K w) r := by
  rw [xQ9] at h
  unfold xRI at h
  split at h
  · obtain ⟨v, hv, rfl⟩ := xMr h
    exact OpS.val hok (xMs hv he) fun V K w hK E hE => by show K (ev E _) w; rw [xMo hv hE]; exact hK
  · obtain ⟨v, hv, rfl⟩ := xMr h
    exact OpS.val hok (xMs hv he) fun V K w hK E hE => by show K (ev E _) w; rw [xMo hv hE]; exact hK
  · unfold xP6 at h
    split at h
    · rename_i hc
      obtain ⟨a, ha, h⟩ := xMm h
      obtain ⟨v, hv, rfl⟩ := xMr h
      exact OpS.val hok (xMs hv he) fun V K w hK E hE => by show X4 (ev E _) (ev E _) (ev E _) K w; rw [xMo hc hE, xMo hv hE]; exact hK
    · rename_i hc
      obtain ⟨a, ha, h⟩ := xMm h
      obtain ⟨v, hv, rfl⟩ := xMr h
      exact OpS.val hok (xMs hv he) fun V K w hK E hE => by show X4 (ev E _) (ev E _) (ev E _) K w; rw [xMo hc hE, xMo hv hE]; exact hK
    · cases h
  · unfold xRr at h
    split at h
    · split at h
      · rename_i z hz
        cases h
        exact OpS.val hok (by unfold CV.bd; trivial) fun V K w hK E hE => by show Yw (ev E _) K w; rw [xMo hz hE]; exact hK
      · cases h
    · split at h
      · rename_i k n hz
        cases h
        exact OpS.val hok (by unfold CV.bd; trivial) fun V K w hK E hE => by rw [xLL, xMo hz hE]; show xKM P (.int k n) K w; rw [xLr]; exact hK
      · cases h
    · cases h
  · obtain ⟨v, hz, h'⟩ := xMm h
    obtain ⟨k, o, rfl, h'⟩ := xNk h'
    · cases h'
      exact OpS.val hok (xMs hz he) fun V K w hK E hE => by show Yv (ev E _) K w; rw [xMo hz hE]; exact hK
  · unfold xRc at h
    split at h
    · rename_i l hz
      obtain ⟨v, hv, rfl⟩ := xMr h
      have hb := xMs hz he
      unfold CV.bd at hb
      refine OpS.val hok (hb v (List.mem_of_getElem? hv)) fun V K w hK E hE => ?_
      show X1 (ev E _) _ K w
      rw [xMo hz hE]
      have := CV.vs_get V hv []
      rw [List.append_nil] at this
      simp only [CV.v, X1, List.getElem?_toArray, this]
      exact hK
    · cases h
  · obtain ⟨a, ha, h⟩ := xMm h
    obtain ⟨b, hb, h⟩ := xMm h
    obtain ⟨v, hv, rfl⟩ := xMr h
    exact (xO8 hv hok).mono fun V K w hK E hE => by show XO P _ _ _ _ (ev E _) (ev E _) K w; rw [xMo ha hE, xMo hb hE]; exact hK
  · rename_i s d x
    unfold xPV at h
    cases hsd : Nat.beq s d with
    | true => rw [hsd, cond_true] at h; cases h
    | false =>
      rw [hsd, cond_false] at h
      obtain ⟨a, ha, h⟩ := xMm h
      split at h
      · rename_i z hz
        obtain ⟨v, hv, rfl⟩ := xMr h
        obtain ⟨q, h1, h2⟩ := xMy hv
        refine OpS.gen (s := convert s d z) (fun V K w hK E hE => ?_) hok h1 h2
        show xhR P s d (ev E x) K w
        unfold xhR
        rw [if_neg (fun e => by subst e; rw [Nat.beq_refl] at hsd; cases hsd), xMo ha hE, CV.gr1_spec hz V]
        exact hK
      · cases h
  · obtain ⟨a, ha, h⟩ := xMm h
    obtain ⟨v, hv, rfl⟩ := xMr h
    exact (xNL hv hok).mono fun V K w hK E hE => by show Xq P (Instr.loadAt _ (ev E _)) K w; rw [xMo ha hE]; exact hK
  · obtain ⟨a, ha, h⟩ := xMm h
    obtain ⟨v, hv, rfl⟩ := xMr h
    exact (xO9 hv hok (xMs ha he)).mono fun V K w hK E hE => by show Xq P (Instr.fieldAt _ (ev E _) _) K w; rw [xMo ha hE]; exact hK
  · obtain ⟨a, ha, h⟩ := xMm h
    obtain ⟨v, hv, rfl⟩ := xMr h
    exact (xPG hv hok (xMs ha he)).mono fun V K w hK E hE => by show Xq P (Instr.field _ (ev E _) _) K w; rw [xMo ha hE]; exact hK
  · obtain ⟨a, ha, h⟩ := xMm h
    obtain ⟨i, hi, h⟩ := xMm h
    obtain ⟨v, hv, rfl⟩ := xMr h
    exact (xO1 hv hok (xMs ha he)).mono fun V K w hK E hE => by show Xq P (Instr.indexAt _ (ev E _) (ev E _)) K w; rw [xMo ha hE, xMo hi hE]; exact hK
  · obtain ⟨a, ha, h⟩ := xMm h
    obtain ⟨i, hi, h⟩ := xMm h
    obtain ⟨v, hv, rfl⟩ := xMr h
    exact (xPP hv hok (xMs ha he)).mono fun V K w hK E hE => by show Xq P (Instr.index _ (ev E _) (ev E _)) K w; rw [xMo ha hE, xMo hi hE]; exact hK
  · unfold xP1 at h
    split at h
    case h_2 => cases h
    obtain ⟨a, ha, h⟩ := xMm h
    obtain ⟨lo, hlo, h⟩ := xMm h
    obtain ⟨hi, hhi, h⟩ := xMm h
    obtain ⟨v, hv, rfl⟩ := xMr h
    exact (xPv hv hok (xMs ha he)).mono fun V K w hK E hE => by show Xq P (Instr.sliceAt _ (ev E _) (Option.map (ev E) _) (Option.map (ev E) _) (Option.map (ev E) none)) K w; rw [xMo ha hE, xN9 hlo hE, xN9 hhi hE]; exact hK
  · obtain ⟨a, ha, h⟩ := xMm h
    obtain ⟨i, hi, h⟩ := xMm h
    obtain ⟨v, hv, rfl⟩ := xMr h
    exact (xO4 hv hok).mono fun V K w hK E hE => by show Xq P (Instr.lookup _ (ev E _) (ev E _) _) K w; rw [xMo ha hE, xMo hi hE]; exact hK
  · obtain ⟨l, hl, h⟩ := xMm h
    obtain ⟨v, hv, rfl⟩ := xMr h
    exact (xON hv hok (xOn hl he)).mono fun V K w hK E hE => by show Xq P (Instr.build _ (Array.map (fun x : Nat × Operand => (x.1, ev E x.2)) _)) K w; rw [xOD (xNv hl hE)]; exact hK
  · obtain ⟨a, ha, h⟩ := xMm h
    obtain ⟨v, hv, rfl⟩ := xMr h
    exact (xPs hv hok (xMs ha he)).mono fun V K w hK E hE => by show Xq P (Instr.makeInterface _ (ev E _)) K w; rw [xMo ha hE]; exact hK
  · unfold xRm at h
    split at h
    case h_2 => cases h
    obtain ⟨a, ha, h⟩ := xMm h
    obtain ⟨c, hc, h⟩ := xMm h
    cases h
    exact OpS.val hok (by unfold CV.bd; exact ⟨xMI ha he, xMI hc he⟩) fun V K w hK E hE => by show K (.func _ (Array.map (ev E) _) (Array.map (ev E) _)) w; rw [xM3 (xMz ha hE), xM3 (xMz hc hE)]; exact hK
  · obtain ⟨a, ha, h⟩ := xMm h
    obtain ⟨v, hv, rfl⟩ := xMr h
    exact (xPB hv hok (xMs ha he)).mono fun V K w hK E hE => by show Xq P (Instr.typeAssert (ev E _) _ _ _) K w; rw [xMo ha hE]; exact hK
  · obtain ⟨a, ha, h⟩ := xMm h
    obtain ⟨b, hb, h⟩ := xMm h
    exact (xOt h hok (xMs hb he)).mono fun V K w hK E hE => by show Xv P (Instr.storeAt _ (ev E _) (ev E _)) K w; rw [xMo ha hE, xMo hb hE]; exact hK
  · exact (xOs h hok).mono fun V K w hK E hE => hK
  · obtain ⟨a, ha, h⟩ := xMm h
    exact (xPK h hok (xMs ha he)).mono fun V K w hK E hE => by show Xt P (Instr.box _ (ev E _)) K w; rw [xMo ha hE]; exact hK
  · obtain ⟨l, hl, h⟩ := xMm h
    exact (xOO h hok (xOn hl he)).mono fun V K w hK E hE => by show Xt P (Instr.buildSlice _ _ (Array.map (fun x : Nat × Operand => (x.1, ev E x.2)) _)) K w; rw [xOD (xNv hl hE)]; exact hK
  · unfold xQp at h
    split at h
    case h_2 => cases h
    exact (xPL h hok).mono fun V K w hK E hE => hK
  · obtain ⟨a, ha, h⟩ := xMm h
    exact (xPN h hok).mono fun V K w hK E hE => by show Xt P (Instr.makeChan _ (ev E _)) K w; rw [xMo ha hE]; exact hK
  · obtain ⟨a, ha, h⟩ := xMm h
    obtain ⟨b, hb, h⟩ := xMm h
    exact (xPQ h hok).mono fun V K w hK E hE => by show Xt P (Instr.makeSlice _ (ev E _) (ev E _)) K w; rw [xMo ha hE, xMo hb hE]; exact hK
  · obtain ⟨a, ha, h⟩ := xMm h
    obtain ⟨b, hb, h⟩ := xMm h
    obtain ⟨c, hc, h⟩ := xMm h
    exact (xOW h hok (xMs hc he)).mono fun V K w hK E hE => by show Xv P (Instr.mapUpdate _ (ev E _) (ev E _) (ev E _)) K w; rw [xMo ha hE, xMo hb hE, xMo hc hE]; exact hK
  · rename_i c
    obtain ⟨ca, as, ts⟩ := c
    cases ca with
    | value g =>
      cases g with
      | const c => cases h
      | global g => cases h
      | func f =>
        have h : (bd1 (xMM e as.toList) fun as => cl (.f f [] []) as σ) = some r := h
        obtain ⟨l, hl, h⟩ := xMm h
        refine (hcl _ _ _ _ h hok (xQL _ _) (xMI hl he)).mono fun V K w hK E hE => ?_
        show FnK P f (as.map (ev E)) K w
        rw [xM3 (xMz hl hE)]
        have hK : FnK P f (#[] ++ (CV.vs V l).toArray ++ #[]) K w := hK
        rwa [Array.empty_append, Array.append_empty] at hK
      | tmp t =>
        have h : (bd1 (e.get t) fun f => bd1 (xMM e as.toList) fun as => xPq P cl σ f as) = some r := h
        obtain ⟨f, hf, h⟩ := xMm h
        have h : (bd1 (xMM e as.toList) fun as => xPq P cl σ f as) = some r := h
        obtain ⟨l, hl, h⟩ := xMm h
        have h' : cl f l σ = some r := by
          unfold xPq at h
          split at h
          · exact h
          · exact h
          · cases h
        refine (hcl _ _ _ _ h' hok (he _ _ hf) (xMI hl he)).mono fun V K w hK E hE => ?_
        show XZ P (E t) (as.map (ev E)) K _ w
        rw [hE t f hf, xM3 (xMz hl hE)]
        exact xOr hK
    | invoke x m =>
      have h : (bd1 (cev e x) fun x => bd1 (xMM e as.toList) fun as => xQs P cl σ m as x) = some r := h
      obtain ⟨a, ha, h⟩ := xMm h
      have h : (bd1 (xMM e as.toList) fun as => xQs P cl σ m as a) = some r := h
      obtain ⟨l, hl, h⟩ := xMm h
      refine (xPO h hcl hok (xMs ha he) (xMI hl he)).mono fun V K w hK E hE => ?_
      rw [xlN, xMo ha hE, xM3 (xMz hl hE)]
      exact hK
    | builtin b =>
      have h : (bd1 (xMM e as.toList) fun as => xQF P σ b ts as) = some r := h
      obtain ⟨l, hl, h⟩ := xMm h
      exact (xPA h hok (xMI hl he)).mono fun V K w hK E hE => hK E (xM3 (xMz hl hE))
  · cases h
