import Derived.Test.YtacmaamllpiloaaGreatZ22
import Derived.Test.YtacmaamllpiloaaGreatZ28
import Derived.Test.YtacmaamllpiloaaGreatZ24
import Derived.Test.YtacmaamllpiloaaGreatOD
namespace Go.Proofs.YtacmaamllpiloaaGreat
open Go Go.Wk
set_option maxHeartbeats 3200000
set_option maxRecDepth 100000
def portL (p : Nat) (s : SV) (gs : List OneG) : List Asrt := [poB p s, fam oneA gs, sl false s.v (gs.map OneG.pt)]
def wfP (gs : List OneG) : Prop := invP gs 16 ∧ ∀ g ∈ gs, g.depth ≤ 16
def portX (p : Nat) (ps : List AP) : Asrt := pk (fun g : SV × List OneG => portL p g.1 g.2) (fun g => g.2.map OneG.abs = ps ∧ wfP g.2)
def okA (ps : List AP) : Prop := ps.length ≤ 8 ∧ ∀ g ∈ ps, g.c.depth ≤ 16 ∧ g.ms.length ≤ 16
theorem portX_cl {p : Nat} {ps : List AP} {s : SV} {gs : List OneG} {l : List Asrt} (h1 : gs.map OneG.abs = ps) (h2 : wfP gs) : Imp (portL p s gs ++ l) (portX p ps :: l) :=
  Imp.pk (f := fun g : SV × List OneG => portL p g.1 g.2) (p := fun g => g.2.map OneG.abs = ps ∧ wfP g.2) (s, gs) ⟨h1, h2⟩
def sizePA (ps : List AP) (k : Int) : Int := if inR ps k then (ix ps k).c.size else 0
section
variable {gs : List OneG} {k : Int} {q : Bool} {s : SV} {m : Msg}
theorem wf_set {j : Nat} {g : OneG} (h : wfP gs) (hg : g.wf 16) (hd : g.depth ≤ 16) : wfP (gs.set j g) := ⟨inv_set h.1 hg, fun x hx => by
  rcases List.mem_or_eq_of_mem_set hx with h' | rfl
  · exact h.2 x h'
  · exact hd⟩
theorem wf_d (h : wfP gs) (hr : inR gs k) : (ix gs k).depth ≤ 16 := h.2 _ (List.mem_of_getElem? (ix_some hr.1 hr.2))
theorem wf_into (h : wfP gs) (hm : m.d.length ≤ 300) : wfP (intoG gs k q s m) := by
  unfold intoG
  split
  · rename_i hc
    obtain ⟨hr, hq, hi⟩ := canB_t hc
    have hw := wf_ix h.1 hr
    have hd := wf_d h hr
    split
    · refine wf_set h ?_ (by unfold putP; split <;> exact hd)
      unfold putP
      split
      · refine ⟨hw.1, hw.2.1, ?_⟩
        show (qput (ix gs k).ms (ix gs k).depth m).length ≤ 16
        have := hw.2.2
        unfold qput; split <;> simp <;> omega
      · exact ⟨fun _ _ => rfl, hm, hw.2.2⟩
    · exact h
  · exact h
theorem wf_del (h : wfP gs) (hm : m.d.length ≤ 300) : wfP (delG gs k s m) := by
  unfold delG
  split
  · rename_i hr
    have hw := wf_ix h.1 hr
    have hd := wf_d h hr
    split
    · refine wf_set h ?_ (by unfold delP; split <;> (try split) <;> exact hd)
      unfold delP
      split
      · split
        · exact ⟨hw.1, hw.2.1, hw.2.2⟩
        · refine ⟨hw.1, hw.2.1, ?_⟩
          have := hw.2.2
          show ((ix gs k).ms ++ [m]).length ≤ 16
          simp; omega
      · exact ⟨fun _ _ => rfl, hm, hw.2.2⟩
    · exact h
  · exact h
theorem dep_set {j : Int} {g : OneG} (h : wfP gs) (hd : g.depth = (ix gs j).depth) (hr : inR gs j) : ∀ x ∈ gs.set j.toNat g, x.depth ≤ 16 := fun x hx => by
  rcases List.mem_or_eq_of_mem_set hx with h' | rfl
  · exact h.2 x h'
  · rw [hd]; exact wf_d h hr
theorem wf_out (h : wfP gs) : wfP (outG gs k q s) := ⟨inv_out h.1, by
  unfold outG
  split
  · rename_i hc
    obtain ⟨hr, hq, hi⟩ := canB_t hc
    split
    · exact dep_set h rfl hr
    · exact h.2
  · exact h.2⟩
theorem abs_size : sizeP gs k = sizePA (gs.map OneG.abs) k := by
  unfold sizeP sizePA
  simp only [abs_inR]
  split
  · rename_i h; rw [abs_ix h]; rfl
  · rfl
end
section
variable {ps : List AP} {k : Int} {q : Bool} {m : List UInt8}
theorem okA_new {cs : List PortC} (h : ∀ c ∈ cs, c.depth ≤ 16) : okA (newA cs) := ⟨by rw [newA_len]; omega, fun g hg => by
  obtain ⟨x, hx, rfl⟩ := List.mem_map.1 hg
  exact ⟨h x (List.mem_of_mem_take hx), Nat.zero_le _⟩⟩
end
section
variable {p r : Nat} {ps : List AP} {k : Int} {q i : Bool} {s2 s0 : SV} {m : List UInt8} {cs : List PortC}
theorem xcan_ok : Trip Tryz.prog 163 [.pointer (some ⟨p, 0, none⟩), .int .i64 k, .bool q, .bool i].toArray [portX p ps]
    fun v l' => v = .bool (canA ps k q i) ∧ l' = [portX p ps] := by
  refine Trip.pk fun g hg F K hK => ?_
  obtain ⟨rfl, hw⟩ := hg
  refine can_ok ([] ++ F) K ?_
  rintro v l' ⟨rfl, rfl⟩
  refine Tr.imp ?_ (hK _ _ ⟨by rw [abs_can], rfl⟩)
  exact portX_cl rfl hw
theorem xsize_ok : Trip Tryz.prog 162 [.pointer (some ⟨p, 0, none⟩), .int .i64 k].toArray [portX p ps]
    fun v l' => v = .int .i64 (sizePA ps k) ∧ l' = [portX p ps] := by
  refine Trip.pk fun g hg F K hK => ?_
  obtain ⟨rfl, hw⟩ := hg
  refine psize_ok ([] ++ F) K ?_
  rintro v l' ⟨rfl, rfl⟩
  refine Tr.imp ?_ (hK _ _ ⟨by rw [abs_size], rfl⟩)
  exact portX_cl rfl hw
theorem xdel_ok (hm : m.length ≤ 300) : Trip Tryz.prog 65 [.pointer (some ⟨p, 0, none⟩), .int .i64 k, s2.v].toArray [portX p ps, sl true s2.v m]
    fun v l' => v = .bool (delBA ps k) ∧ l' = [portX p (delA ps k m)] := by
  refine Trip.pk fun g hg F K hK => ?_
  obtain ⟨rfl, hw⟩ := hg
  refine deliver_ok (by omega) (ms_len hw.1 (by omega) k) F K ?_
  rintro v l' ⟨s3, s4, rfl, rfl⟩
  refine Tr.imp ?_ (hK _ _ ⟨by rw [(abs_del (s := s3) (m := ⟨s4, m⟩)).1], rfl⟩)
  exact portX_cl (abs_del (s := s3) (m := ⟨s4, m⟩)).2 (wf_del hw hm)
theorem xwrite_ok (hm : m.length ≤ 300) : Trip Tryz.prog 168 [.pointer (some ⟨p, 0, none⟩), .int .i64 k, s2.v].toArray [portX p ps, sl true s2.v m]
    fun v l' => v = .int .i64 (intoCA ps k false m.length) ∧ l' = [portX p (intoA ps k false m)] := by
  refine Trip.pk fun g hg F K hK => ?_
  obtain ⟨rfl, hw⟩ := hg
  refine write_ok (by omega) (ms_len hw.1 (by omega) k) F K ?_
  rintro v l' ⟨s3, s4, rfl, rfl⟩
  refine Tr.imp ?_ (hK _ _ ⟨by rw [abs_intoC], rfl⟩)
  exact portX_cl (abs_into (s := s3) (m := ⟨s4, m⟩)) (wf_into hw hm)
theorem xsend_ok (hm : m.length ≤ 300) : Trip Tryz.prog 93 [.pointer (some ⟨p, 0, none⟩), .int .i64 k, s2.v].toArray [portX p ps, sl true s2.v m]
    fun v l' => v = .int .i64 (intoCA ps k true m.length) ∧ l' = [portX p (intoA ps k true m)] := by
  refine Trip.pk fun g hg F K hK => ?_
  obtain ⟨rfl, hw⟩ := hg
  refine send_ok (by omega) (ms_len hw.1 (by omega) k) F K ?_
  rintro v l' ⟨s3, s4, rfl, rfl⟩
  refine Tr.imp ?_ (hK _ _ ⟨by rw [abs_intoC], rfl⟩)
  exact portX_cl (abs_into (s := s3) (m := ⟨s4, m⟩)) (wf_into hw hm)
theorem xread_ok : Trip Tryz.prog 165 [.pointer (some ⟨p, 0, none⟩), .int .i64 k].toArray [portX p ps]
    fun v l' => ∃ t : SV, v = .tuple #[t.v, .int .i64 (outCA ps k false)] ∧ l' = [portX p (outA ps k false), Fz.fz (SL.mk t (outDA ps k false) : Msg)] := by
  refine Trip.pk fun g hg F K hK => ?_
  obtain ⟨rfl, hw⟩ := hg
  refine read2_ok (m_len hw.1 k) ([] ++ F) K ?_
  rintro v l' ⟨s3, s4, rfl, rfl⟩
  refine Tr.imp ?_ (hK _ _ ⟨s4, by rw [abs_outC], rfl⟩)
  exact (by rw [← abs_outD]; exact portX_cl (abs_out (s := s3)) (wf_out hw))
theorem xrecv_ok : Trip Tryz.prog 95 [.pointer (some ⟨p, 0, none⟩), .int .i64 k].toArray [portX p ps]
    fun v l' => ∃ t : SV, v = .tuple #[t.v, .int .i64 (outCA ps k true)] ∧ l' = [portX p (outA ps k true), Fz.fz (SL.mk t (outDA ps k true) : Msg)] := by
  refine Trip.pk fun g hg F K hK => ?_
  obtain ⟨rfl, hw⟩ := hg
  refine receive2_ok (m_len hw.1 k) ([] ++ F) K ?_
  rintro v l' ⟨s3, s4, rfl, rfl⟩
  refine Tr.imp ?_ (hK _ _ ⟨s4, by rw [abs_outC], rfl⟩)
  exact (by rw [← abs_outD]; exact portX_cl (abs_out (s := s3)) (wf_out hw))
theorem xpclear_ok : Trip Tryz.prog 225 [.pointer (some ⟨p, 0, none⟩)].toArray [portX p ps]
    fun v l' => v = .tuple #[] ∧ l' = [portX p (clearA ps)] := by
  refine Trip.pk fun g hg F K hK => ?_
  obtain ⟨rfl, hw⟩ := hg
  refine pclear_ok ([] ++ F) K ?_
  rintro v l' ⟨gs2, hpt, hco, rfl, rfl⟩
  refine Tr.imp ?_ (hK _ _ ⟨rfl, rfl⟩)
  obtain ⟨h1, h2⟩ := clear_abs hw.1 hco
  have hd : ∀ g ∈ gs2, g.wf 16 ∧ g.depth ≤ 16 := fun x hx => by
    have hm : x.core ∈ gs2.map OneG.core := List.mem_map_of_mem hx
    rw [hco] at hm
    obtain ⟨y, hy, he⟩ := List.mem_map.1 hm
    have hdd : x.depth = y.depth := by have := congrArg (fun c => c.2.2.2.1) he; simpa [OneG.core, portM, OneG.conf] using this.symm
    have hwf := (core_wf (g := x) (x := y.conf) he.symm).1
    exact ⟨⟨hwf.1, hwf.2.1, by have := hwf.2.2; omega⟩, by rw [hdd]; exact hw.2 y hy⟩
  rw [← hpt]
  exact portX_cl h2 ⟨⟨h1.1, fun g hg => (hd g hg).1⟩, fun g hg => (hd g hg).2⟩
theorem xpnew_ok (h : ∀ c ∈ cs, c.depth ≤ 16) : Trip Tryz.prog 53 [s0.v].toArray [sl true s0.v cs]
    fun v l' => ∃ p : Nat, v = .pointer (some ⟨p, 0, none⟩) ∧ l' = [portX p (newA cs)] := by
  refine fun F K hK => pnew_ok F K ?_
  rintro v l' ⟨b, s, gs, h2, rfl, rfl⟩
  refine Tr.imp ?_ (hK _ _ ⟨b, rfl, rfl⟩)
  obtain ⟨i1, i2⟩ := core_inv h2 (by simp; omega)
  have hd : ∀ g ∈ gs, g.wf 16 ∧ g.depth ≤ 16 := fun x hx => by
    have hm : x.core ∈ gs.map OneG.core := List.mem_map_of_mem hx
    rw [h2] at hm
    obtain ⟨y, hy, he⟩ := List.mem_map.1 hm
    have hdd : x.depth = y.depth := by have := congrArg (fun c => c.2.2.2.1) he; simpa [OneG.core, portM] using this.symm
    have hwf := (core_wf (g := x) (x := y) he.symm).1
    exact ⟨⟨hwf.1, hwf.2.1, by have := hwf.2.2; omega⟩, by rw [hdd]; exact h y (List.mem_of_mem_take hy)⟩
  exact portX_cl i2 ⟨⟨i1.1, fun g hg => (hd g hg).1⟩, fun g hg => (hd g hg).2⟩
end
end Go.Proofs.YtacmaamllpiloaaGreat
namespace Go.Proofs.YtacmaamllpiloaaGreat
open Go Go.Wk
set_option maxHeartbeats 3200000
set_option maxRecDepth 100000
structure ObM where
  sems : List SemM
  flags : List Bool
  pools : List PoolM
  slates : List SlateM
section
variable (ss : List SemM) (fs : List Bool) (ps : List PoolM) (ls : List SlateM) (k : Int)
def takeMC : Int := if inR ss k then (if (ix ss k).2.2 < 1 then 1 else 0) else 3
def takeM : List SemM := if inR ss k then (if (ix ss k).2.2 < 1 then ss else ss.set k.toNat ((ix ss k).1, (ix ss k).2.1, IntKind.i64.wrap ((ix ss k).2.2 - 1))) else ss
def giveMC : Int := if inR ss k then (if (ix ss k).2.1 ≤ (ix ss k).2.2 then 6 else 0) else 3
def giveM : List SemM := if inR ss k then (if (ix ss k).2.1 ≤ (ix ss k).2.2 then ss else ss.set k.toNat ((ix ss k).1, (ix ss k).2.1, IntKind.i64.wrap ((ix ss k).2.2 + 1))) else ss
def flagMC : Int := if inR fs k then 0 else 3
def flagMs (up : Bool) : List Bool := if inR fs k then fs.set k.toNat up else fs
def upM : Bool := if inR fs k then ix fs k else false
def putMC (n : Nat) : Int := if inR ps k then (if fitsB n (ix ps k).1 then (if (ix ps k).2.1 ≤ (ix ps k).2.2.length then 1 else 0) else 2) else 3
def putM (m : List UInt8) : List PoolM := if putMC ps k m.length = 0 then ps.set k.toNat ((ix ps k).1, (ix ps k).2.1, (ix ps k).2.2 ++ [m]) else ps
def getMC : Int := if inR ps k then (if ((ix ps k).2.2.length : Int) = 0 then 1 else 0) else 3
def getMD : List UInt8 := if getMC ps k = 0 then ix (ix ps k).2.2 0 else []
def getMs : List PoolM := if getMC ps k = 0 then ps.set k.toNat ((ix ps k).1, (ix ps k).2.1, (ix ps k).2.2.drop 1) else ps
def showMC (n : Nat) : Int := if inR ls k then (if fitsB n (ix ls k).1 then 0 else 2) else 3
def showMs (m : List UInt8) : List SlateM := if showMC ls k m.length = 0 then ls.set k.toNat ((ix ls k).1, some m) else ls
def lookMC : Int := if inR ls k then (if (ix ls k).2.isSome then 0 else 1) else 3
def lookMD : List UInt8 := if lookMC ls k = 0 then (ix ls k).2.getD [] else []
def wipeMC : Int := if inR ls k then 0 else 3
def wipeMs : List SlateM := if inR ls k then ls.set k.toNat ((ix ls k).1, none) else ls
def sizeMC (p : Int) : Int := if 0 ≤ k then (if inR ls k then (ix ls k).1 else 0) else (if inR ps p then (ix ps p).1 else 0)
end
theorem inR_map {α β : Type} {f : α → β} {xs : List α} {k : Int} : inR (xs.map f) k = inR xs k := by unfold inR; rw [List.length_map]
theorem ixR {α β : Type} [Inhabited α] [Inhabited β] {f : α → β} {xs : List α} {k : Int} (h : inR xs k) : ix (xs.map f) k = f (ix xs k) := ix_map h.1 h.2
section
variable {gS : List SemG} {gF : List FlagG} {gP : List PoolG} {gL : List SlateG} {k : Int} {s1 : SV} {m : Msg} {n : Nat} {up : Bool}
theorem take_mo : takeC gS k = takeMC (gS.map SemG.mo) k ∧ (takeG gS k).map SemG.mo = takeM (gS.map SemG.mo) k := by
  unfold takeC takeG takeMC takeM
  simp only [inR_map]
  by_cases h : inR gS k
  · simp only [h, if_true, ixR h]
    refine ⟨rfl, ?_⟩
    show List.map SemG.mo (if (ix gS k).count < 1 then _ else _) = (if (ix gS k).count < 1 then _ else _)
    split
    · rfl
    · exact List.map_set
  · simp only [h, if_false, and_self]
theorem give_mo : giveC gS k = giveMC (gS.map SemG.mo) k ∧ (giveG gS k).map SemG.mo = giveM (gS.map SemG.mo) k := by
  unfold giveC giveG giveMC giveM
  simp only [inR_map]
  by_cases h : inR gS k
  · simp only [h, if_true, ixR h]
    refine ⟨rfl, ?_⟩
    show List.map SemG.mo (if (ix gS k).most ≤ (ix gS k).count then _ else _) = (if (ix gS k).most ≤ (ix gS k).count then _ else _)
    split
    · rfl
    · exact List.map_set
  · simp only [h, if_false, and_self]
theorem flag_mo : flagC gF k = flagMC (gF.map FlagG.mo) k ∧ (flagG gF k up).map FlagG.mo = flagMs (gF.map FlagG.mo) k up ∧ upB gF k = upM (gF.map FlagG.mo) k := by
  unfold flagC flagG flagMC flagMs upB upM
  simp only [inR_map]
  by_cases h : inR gF k
  · simp only [h, if_true, ixR h]
    exact ⟨trivial, List.map_set, rfl⟩
  · simp only [h, if_false, and_self]
theorem putC_mo : putC gP k n = putMC (gP.map PoolG.mo) k n := by
  unfold putC putMC
  simp only [inR_map]
  by_cases h : inR gP k
  · simp only [h, if_true, ixR h]
    simp only [PoolG.mo, List.length_map]
  · simp only [h, if_false]
theorem putC_in (h : putC gP k n = 0) : inR gP k := by
  unfold putC at h
  split at h
  · assumption
  · cases h
theorem put20_mo : (putG gP k s1 m).map PoolG.mo = putM (gP.map PoolG.mo) k m.d := by
  unfold putG putM
  rw [putC_mo]
  split
  · rename_i h
    rw [← putC_mo] at h
    rw [ixR (putC_in h), List.map_set]
    congr 1
    simp [PoolG.mo]
  · rfl
theorem getC_mo : getC gP k = getMC (gP.map PoolG.mo) k := by
  unfold getC getMC
  simp only [inR_map]
  by_cases h : inR gP k
  · simp only [h, if_true, ixR h]
    simp only [PoolG.mo, List.length_map]
  · simp only [h, if_false]
theorem getC_in (h : getC gP k = 0) : inR gP k ∧ 0 < (ix gP k).ms.length := by
  unfold getC at h
  split at h
  · rename_i hr
    refine ⟨hr, ?_⟩
    split at h
    · cases h
    · omega
  · cases h
theorem get_mo : (getG gP k s1).map PoolG.mo = getMs (gP.map PoolG.mo) k ∧ (getM gP k).d = getMD (gP.map PoolG.mo) k := by
  unfold getG getMs getM getMD
  rw [getC_mo]
  split
  · rename_i h
    rw [← getC_mo] at h
    obtain ⟨h1, h2⟩ := getC_in h
    rw [ixR h1, List.map_set]
    refine ⟨?_, ?_⟩
    · congr 1
      simp [PoolG.mo]
    · exact (ix_map (f := SL.d) (by omega) (by omega)).symm
  · exact ⟨rfl, rfl⟩
theorem showC_mo : showC gL k n = showMC (gL.map SlateG.mo) k n := by
  unfold showC showMC
  simp only [inR_map]
  by_cases h : inR gL k
  · simp only [h, if_true, ixR h]; rfl
  · simp only [h, if_false]
theorem showC_in (h : showC gL k n = 0) : inR gL k := by
  unfold showC at h
  split at h
  · assumption
  · cases h
theorem show_mo : (showG gL k m).map SlateG.mo = showMs (gL.map SlateG.mo) k m.d := by
  unfold showG showMs
  rw [showC_mo]
  split
  · rename_i h
    rw [← showC_mo] at h
    rw [ixR (showC_in h), List.map_set]
    congr 1
  · rfl
theorem lookC_mo : lookC gL k = lookMC (gL.map SlateG.mo) k := by
  unfold lookC lookMC
  simp only [inR_map]
  by_cases h : inR gL k
  · simp only [h, if_true, ixR h]
    simp only [SlateG.mo]
    by_cases hs : (ix gL k).shown = true <;> simp [hs]
  · simp only [h, if_false]
theorem look_mo : lookD gL k = lookMD (gL.map SlateG.mo) k := by
  unfold lookD lookMD
  rw [lookC_mo]
  split
  · rename_i h
    rw [← lookC_mo] at h
    unfold lookC at h
    split at h
    · rename_i hr
      rw [ixR hr]
      simp only [SlateG.mo]
      by_cases hs : (ix gL k).shown = true
      · simp [hs]
      · rw [if_neg hs] at h; cases h
    · cases h
  · rfl
theorem wipe_mo : wipeC gL k = wipeMC (gL.map SlateG.mo) k ∧ (wipeG gL k).map SlateG.mo = wipeMs (gL.map SlateG.mo) k := by
  unfold wipeC wipeG wipeMC wipeMs
  simp only [inR_map]
  by_cases h : inR gL k
  · simp only [h, if_true, ixR h]
    exact ⟨trivial, List.map_set⟩
  · simp only [h, if_false, and_self]
theorem size_mo {p : Int} : sizeC gP gL p k = sizeMC (gP.map PoolG.mo) (gL.map SlateG.mo) k p := by
  unfold sizeC sizeMC
  simp only [inR_map]
  split
  · by_cases h : inR gL k
    · simp only [h, if_true, ixR h]; rfl
    · simp only [h, if_false]
  · by_cases h : inR gP p
    · simp only [h, if_true, ixR h]; rfl
    · simp only [h, if_false]
end
end Go.Proofs.YtacmaamllpiloaaGreat
namespace Go.Proofs.YtacmaamllpiloaaGreat
open Go Go.Wk
set_option maxHeartbeats 3200000
set_option maxRecDepth 100000
structure okO (c : PartD) (o : ObM) : Prop where
  s : o.sems.map (fun x => x.2.1) = (c.sems.d.take 4).map SemC.most
  f : o.flags.length ≤ 8
  p : o.pools.map (fun x => (x.1, x.2.1)) = (c.pools.d.take 4).map (fun x => (x.size, x.depth))
  l : o.slates.map (fun x => x.1) = c.slates.d.take 4
  n : ∀ x ∈ o.pools, x.2.1 ≤ 16 ∧ x.2.2.length ≤ 16
def newO (c : PartD) : ObM := ⟨(c.sems.d.take 4).map semM, List.replicate (nflags c.flags) false, (c.pools.d.take 4).map poolM, (c.slates.d.take 4).map slateM⟩
section
variable {c : PartD} {o : ObM} {k : Int} {up : Bool} {m : List UInt8}
theorem set_same {α β : Type} [Inhabited α] {f : α → β} {xs : List α} {k : Int} {x : α} (h : inR xs k) (hx : f x = f (ix xs k)) : (xs.set k.toNat x).map f = xs.map f := pt_set h.1 h.2 hx
theorem okO_take (h : okO c o) : okO c { o with sems := takeM o.sems k } := ⟨by
  unfold takeM
  split
  · rename_i hr
    split
    · exact h.s
    · exact (by refine Eq.trans (set_same (f := fun x : SemM => x.2.1) hr ?_) h.s; rfl)
  · exact h.s, h.f, h.p, h.l, h.n⟩
theorem okO_give (h : okO c o) : okO c { o with sems := giveM o.sems k } := ⟨by
  unfold giveM
  split
  · rename_i hr
    split
    · exact h.s
    · exact (by refine Eq.trans (set_same (f := fun x : SemM => x.2.1) hr ?_) h.s; rfl)
  · exact h.s, h.f, h.p, h.l, h.n⟩
theorem okO_flag (h : okO c o) : okO c { o with flags := flagMs o.flags k up } := ⟨h.s, by
  unfold flagMs
  split
  · simpa using h.f
  · exact h.f, h.p, h.l, h.n⟩
theorem putMC_in {ps : List PoolM} {n : Nat} (h : putMC ps k n = 0) : inR ps k ∧ ((ix ps k).2.2.length : Int) < (ix ps k).2.1 := by
  unfold putMC at h
  split at h
  · rename_i hr
    refine ⟨hr, ?_⟩
    split at h
    · split at h
      · cases h
      · omega
    · cases h
  · cases h
theorem pool_n {ps : List PoolM} (h : ∀ x ∈ ps, x.2.1 ≤ 16 ∧ x.2.2.length ≤ 16) (hr : inR ps k) : (ix ps k).2.1 ≤ 16 ∧ (ix ps k).2.2.length ≤ 16 := h _ (List.mem_of_getElem? (ix_some hr.1 hr.2))
theorem okO_put (h : okO c o) : okO c { o with pools := putM o.pools k m } := by
  unfold putM
  split
  · rename_i hc
    obtain ⟨hr, hlt⟩ := putMC_in hc
    refine ⟨h.s, h.f, (by refine Eq.trans (set_same (f := fun x : PoolM => (x.1, x.2.1)) hr ?_) h.p; rfl), h.l, fun x hx => ?_⟩
    rcases List.mem_or_eq_of_mem_set hx with h' | rfl
    · exact h.n x h'
    · have := pool_n h.n hr
      refine ⟨this.1, ?_⟩
      simp only [List.length_append, List.length_singleton]
      omega
  · exact ⟨h.s, h.f, h.p, h.l, h.n⟩
theorem getMC_in {ps : List PoolM} (h : getMC ps k = 0) : inR ps k := by
  unfold getMC at h
  split at h
  · assumption
  · cases h
theorem okO_get (h : okO c o) : okO c { o with pools := getMs o.pools k } := by
  unfold getMs
  split
  · rename_i hc
    have hr := getMC_in hc
    refine ⟨h.s, h.f, (by refine Eq.trans (set_same (f := fun x : PoolM => (x.1, x.2.1)) hr ?_) h.p; rfl), h.l, fun x hx => ?_⟩
    rcases List.mem_or_eq_of_mem_set hx with h' | rfl
    · exact h.n x h'
    · have := pool_n h.n hr
      refine ⟨this.1, ?_⟩
      simp only [List.length_drop]
      omega
  · exact ⟨h.s, h.f, h.p, h.l, h.n⟩
theorem okO_show (h : okO c o) : okO c { o with slates := showMs o.slates k m } := ⟨h.s, h.f, h.p, by
  unfold showMs
  split
  · rename_i hc
    have hr : inR o.slates k := by
      unfold showMC at hc
      split at hc
      · assumption
      · cases hc
    exact (by refine Eq.trans (set_same (f := fun x : SlateM => x.1) hr ?_) h.l; rfl)
  · exact h.l, h.n⟩
theorem okO_wipe (h : okO c o) : okO c { o with slates := wipeMs o.slates k } := ⟨h.s, h.f, h.p, by
  unfold wipeMs
  split
  · rename_i hr
    exact (by refine Eq.trans (set_same (f := fun x : SlateM => x.1) hr ?_) h.l; rfl)
  · exact h.l, h.n⟩
theorem okO_new (h : ∀ x ∈ c.pools.d, x.depth ≤ 16) : okO c (newO c) := ⟨by simp [newO, semM, Function.comp_def], by simp [newO]; exact nflags_le _, by simp [newO, poolM, Function.comp_def], by simp [newO, slateM, Function.comp_def], fun x hx => by
  obtain ⟨y, hy, rfl⟩ := List.mem_map.1 hx
  exact ⟨h y (List.mem_of_mem_take hy), Nat.zero_le _⟩⟩
end
structure ObG where
  ss : SV
  fs : SV
  ps : SV
  ls : SV
  gS : List SemG
  gF : List FlagG
  gP : List PoolG
  gL : List SlateG
def objL (b : Nat) (c : PartD) (g : ObG) : List Asrt := [obB b ⟨c.c, g.ss, g.fs, g.ps, g.ls⟩, sl false g.ss.v (g.gS.map SemG.pt), fam semA g.gS, sl false g.fs.v (g.gF.map FlagG.pt), fam flagA g.gF, sl false g.ps.v (g.gP.map PoolG.pt), fam poolA g.gP, sl false g.ls.v (g.gL.map SlateG.pt), fam slateA g.gL,
  sl true c.sems.s.v c.sems.d, sl true c.pools.s.v c.pools.d, sl true c.slates.s.v c.slates.d]
structure ObG.ok (g : ObG) (c : PartD) (o : ObM) : Prop where
  hs : g.gS.map SemG.mo = o.sems
  hf : g.gF.map FlagG.mo = o.flags
  hp : g.gP.map PoolG.mo = o.pools
  hl : g.gL.map SlateG.mo = o.slates
  hm : ∀ x ∈ g.gL, x.shown = true → x.m.d.length ≤ 300
  ho : okO c o
def objX (b : Nat) (c : PartD) (o : ObM) : Asrt := pk (fun g : ObG => objL b c g) (fun g => g.ok c o)
theorem EntR.objX {b : Nat} {c : PartD} {o : ObM} {g : ObG} {d l l2 : List Asrt} (hg : g.ok c o) (h : EntR d l (objL b c g ++ l2)) : EntR d l (Go.Proofs.YtacmaamllpiloaaGreat.objX b c o :: l2) :=
  Imp.trans h (Imp.pk (f := fun g : ObG => objL b c g) (p := fun g => g.ok c o) g hg)
end Go.Proofs.YtacmaamllpiloaaGreat
