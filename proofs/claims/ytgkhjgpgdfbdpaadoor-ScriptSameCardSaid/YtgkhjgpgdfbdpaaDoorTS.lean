import Derived.Test.YtgkhjgpgdfbdpaaDoorSyx
import Derived.Test.YtgkhjgpgdfbdpaaDoorWkA
import Derived.Test.YtgkhjgpgdfbdpaaDoorRows
import Derived.Test.YtgkhjgpgdfbdpaaDoorTie
import Derived.Test.YtgkhjgpgdfbdpaaDoorCards
import Derived.ProofKit
import Derived.Deep.DeepHandedRow
import Derived.Deep.DeepWitnessRowRef
import Derived.SevenTiedAt
import Derived.Lay
import Derived.Shelf.Vars
namespace Go.Proofs.YtgkhjgpgdfbdpaaDoor
open Go Go.Wk Go.ChangeShapes Go.WideShapes Go.ChangeAt Go.RowKit
set_option maxRecDepth 100000
theorem Tryd.own : ownKnob Tryd.prog.godebug = none := by kernel_rfl
theorem Tryd.laidOut : laidOutB Tryd.prog = true := by kernel_rfl
instance : Inp Tryd.prog 3 Int := inp_int Tryd.underlying3
instance : Inp Tryd.prog 9 Str := inp_str Tryd.underlying9
instance : Fz StepC := ⟨fun p => sep (Fz.fz p.cycles) (sep (Fz.fz p.call) (sep (Fz.fz p.a) (sep (Fz.fz p.b) (sep (Fz.fz p.c) (sep (Fz.fz p.d) (fact True)))))), fun _ => dup_sep (Fz.dup _) (dup_sep (Fz.dup _) (dup_sep (Fz.dup _) (dup_sep (Fz.dup _) (dup_sep (Fz.dup _) (dup_sep (Fz.dup _) (dup_fact _))))))⟩
instance : Inp Tryd.prog 108 StepC := ⟨fun {_ _ _ _ _ _ _ cs _} hsp h => by
  obtain ⟨xs, n, _, _, hl, hxl, hf⟩ := DataW.trod_struct Tryd.underlying108 h
  have g := fun i f hi (hlt : i < xs.length) => (hf i f hi).trans (List.getElem?_eq_getElem hlt)
  obtain ⟨a0, e0, z0⟩ := (inferInstance : Inp Tryd.prog 3 Int).h hsp (g 0 _ rfl (by rw [hxl]; decide))
  have d0 : (cs.drop 0).take 1 = En.enc a0 := by
    have hc : Tryd.prog.cellsOf 3 = 1 := by kernel_rfl
    have e : (cs.drop 0).take (Tryd.prog.cellsOf 3) = En.enc a0 := e0
    rw [hc] at e; exact e
  obtain ⟨a1, e1, z1⟩ := (inferInstance : Inp Tryd.prog 3 Int).h hsp (g 1 _ rfl (by rw [hxl]; decide))
  have d1 : (cs.drop 1).take 1 = En.enc a1 := by
    have hc : Tryd.prog.cellsOf 3 = 1 := by kernel_rfl
    have e : (cs.drop 1).take (Tryd.prog.cellsOf 3) = En.enc a1 := e1
    rw [hc] at e; exact e
  obtain ⟨a2, e2, z2⟩ := (inferInstance : Inp Tryd.prog 3 Int).h hsp (g 2 _ rfl (by rw [hxl]; decide))
  have d2 : (cs.drop 2).take 1 = En.enc a2 := by
    have hc : Tryd.prog.cellsOf 3 = 1 := by kernel_rfl
    have e : (cs.drop 2).take (Tryd.prog.cellsOf 3) = En.enc a2 := e2
    rw [hc] at e; exact e
  obtain ⟨a3, e3, z3⟩ := (inferInstance : Inp Tryd.prog 3 Int).h hsp (g 3 _ rfl (by rw [hxl]; decide))
  have d3 : (cs.drop 3).take 1 = En.enc a3 := by
    have hc : Tryd.prog.cellsOf 3 = 1 := by kernel_rfl
    have e : (cs.drop 3).take (Tryd.prog.cellsOf 3) = En.enc a3 := e3
    rw [hc] at e; exact e
  obtain ⟨a4, e4, z4⟩ := (inferInstance : Inp Tryd.prog 3 Int).h hsp (g 4 _ rfl (by rw [hxl]; decide))
  have d4 : (cs.drop 4).take 1 = En.enc a4 := by
    have hc : Tryd.prog.cellsOf 3 = 1 := by kernel_rfl
    have e : (cs.drop 4).take (Tryd.prog.cellsOf 3) = En.enc a4 := e4
    rw [hc] at e; exact e
  obtain ⟨a5, e5, z5⟩ := (inferInstance : Inp Tryd.prog 3 Int).h hsp (g 5 _ rfl (by rw [hxl]; decide))
  have d5 : (cs.drop 5).take 1 = En.enc a5 := by
    have hc : Tryd.prog.cellsOf 3 = 1 := by kernel_rfl
    have e : (cs.drop 5).take (Tryd.prog.cellsOf 3) = En.enc a5 := e5
    rw [hc] at e; exact e
  refine ⟨⟨a0, a1, a2, a3, a4, a5⟩, ?_, fun R hR => sepI (z0 R hR) (sepI (z1 R hR) (sepI (z2 R hR) (sepI (z3 R hR) (sepI (z4 R hR) (sepI (z5 R hR) (trivial))))))⟩
  have hp := pcs_eq [1, 1, 1, 1, 1, 1] 0 cs (by rw [hl]; kernel_rfl)
  have hq : cs = En.enc a0 ++ (En.enc a1 ++ (En.enc a2 ++ (En.enc a3 ++ (En.enc a4 ++ (En.enc a5 ++ ( [])))))) := by rw [← d0, ← d1, ← d2, ← d3, ← d4, ← d5]; exact hp
  rw [hq]; rfl⟩
theorem step_ok_of {s : StepC} {R : Blks} {w : World} (h : (Fz.fz s).h R (fun _ => False) w) : s.ok := ⟨sep_l h, sep_l (sep_r h), sep_l (sep_r (sep_r h)), sep_l (sep_r (sep_r (sep_r h))), sep_l (sep_r (sep_r (sep_r (sep_r h)))), sep_l (sep_r (sep_r (sep_r (sep_r (sep_r h)))))⟩
instance : Fz FrameC := ⟨fun p => sep (Fz.fz p.reading) (sep (Fz.fz p.mode) (sep (Fz.fz p.drift) (sep (Fz.fz p.choice) (fact True)))), fun _ => dup_sep (Fz.dup _) (dup_sep (Fz.dup _) (dup_sep (Fz.dup _) (dup_sep (Fz.dup _) (dup_fact _))))⟩
instance : Inp Tryd.prog 106 FrameC := ⟨fun {_ _ _ _ _ _ _ cs _} hsp h => by
  obtain ⟨xs, n, _, _, hl, hxl, hf⟩ := DataW.trod_struct Tryd.underlying106 h
  have g := fun i f hi (hlt : i < xs.length) => (hf i f hi).trans (List.getElem?_eq_getElem hlt)
  obtain ⟨a0, e0, z0⟩ := (inferInstance : Inp Tryd.prog 3 Int).h hsp (g 0 _ rfl (by rw [hxl]; decide))
  have d0 : (cs.drop 0).take 1 = En.enc a0 := by
    have hc : Tryd.prog.cellsOf 3 = 1 := by kernel_rfl
    have e : (cs.drop 0).take (Tryd.prog.cellsOf 3) = En.enc a0 := e0
    rw [hc] at e; exact e
  obtain ⟨a1, e1, z1⟩ := (inferInstance : Inp Tryd.prog 3 Int).h hsp (g 1 _ rfl (by rw [hxl]; decide))
  have d1 : (cs.drop 1).take 1 = En.enc a1 := by
    have hc : Tryd.prog.cellsOf 3 = 1 := by kernel_rfl
    have e : (cs.drop 1).take (Tryd.prog.cellsOf 3) = En.enc a1 := e1
    rw [hc] at e; exact e
  obtain ⟨a2, e2, z2⟩ := (inferInstance : Inp Tryd.prog 3 Int).h hsp (g 2 _ rfl (by rw [hxl]; decide))
  have d2 : (cs.drop 2).take 1 = En.enc a2 := by
    have hc : Tryd.prog.cellsOf 3 = 1 := by kernel_rfl
    have e : (cs.drop 2).take (Tryd.prog.cellsOf 3) = En.enc a2 := e2
    rw [hc] at e; exact e
  obtain ⟨a3, e3, z3⟩ := (inferInstance : Inp Tryd.prog 3 Int).h hsp (g 3 _ rfl (by rw [hxl]; decide))
  have d3 : (cs.drop 3).take 1 = En.enc a3 := by
    have hc : Tryd.prog.cellsOf 3 = 1 := by kernel_rfl
    have e : (cs.drop 3).take (Tryd.prog.cellsOf 3) = En.enc a3 := e3
    rw [hc] at e; exact e
  refine ⟨⟨a0, a1, a2, a3⟩, ?_, fun R hR => sepI (z0 R hR) (sepI (z1 R hR) (sepI (z2 R hR) (sepI (z3 R hR) (trivial))))⟩
  have hp := pcs_eq [1, 1, 1, 1] 0 cs (by rw [hl]; kernel_rfl)
  have hq : cs = En.enc a0 ++ (En.enc a1 ++ (En.enc a2 ++ (En.enc a3 ++ ( [])))) := by rw [← d0, ← d1, ← d2, ← d3]; exact hp
  rw [hq]; rfl⟩
theorem frame_ok_of {s : FrameC} {R : Blks} {w : World} (h : (Fz.fz s).h R (fun _ => False) w) : s.ok := ⟨sep_l h, sep_l (sep_r h), sep_l (sep_r (sep_r h)), sep_l (sep_r (sep_r (sep_r h)))⟩
abbrev LFrame := SL FrameC
abbrev LProg := SL ProgS
instance : Inp Tryd.prog 53 (SL StepC) := inp_slice Tryd.underlying53 (by kernel_rfl)
instance : Inp Tryd.prog 52 (SL ProcS) := inp_slice Tryd.underlying52 (by kernel_rfl)
instance : Inp Tryd.prog 45 (SL ProgS) := inp_slice Tryd.underlying45 (by kernel_rfl)
instance : Inp Tryd.prog 46 (SL FrameC) := inp_slice Tryd.underlying46 (by kernel_rfl)
structure ScriptI where
  progs : SL ProgS
  frames : SL FrameC
instance : En ScriptI := ⟨fun d => [d.progs.s.v, d.frames.s.v], 2, fun _ => rfl, fun _ => rfl, by decide⟩
instance : Fz ScriptI := ⟨fun p => sep (Fz.fz p.progs) (sep (Fz.fz p.frames) (fact True)), fun _ => dup_sep (Fz.dup _) (dup_sep (Fz.dup _) (dup_fact _))⟩
instance : Inp Tryd.prog 48 ScriptI := ⟨fun {_ _ _ _ _ _ _ cs _} hsp h => by
  obtain ⟨xs, n, _, _, hl, hxl, hf⟩ := DataW.trod_struct Tryd.underlying48 h
  have g := fun i f hi (hlt : i < xs.length) => (hf i f hi).trans (List.getElem?_eq_getElem hlt)
  obtain ⟨a0, e0, z0⟩ := (inferInstance : Inp Tryd.prog 45 LProg).h hsp (g 0 _ rfl (by rw [hxl]; decide))
  have d0 : (cs.drop 0).take 1 = En.enc a0 := by
    have hc : Tryd.prog.cellsOf 45 = 1 := by kernel_rfl
    have e : (cs.drop 0).take (Tryd.prog.cellsOf 45) = En.enc a0 := e0
    rw [hc] at e; exact e
  obtain ⟨a1, e1, z1⟩ := (inferInstance : Inp Tryd.prog 46 LFrame).h hsp (g 1 _ rfl (by rw [hxl]; decide))
  have d1 : (cs.drop 1).take 1 = En.enc a1 := by
    have hc : Tryd.prog.cellsOf 46 = 1 := by kernel_rfl
    have e : (cs.drop 1).take (Tryd.prog.cellsOf 46) = En.enc a1 := e1
    rw [hc] at e; exact e
  refine ⟨⟨a0, a1⟩, ?_, fun R hR => sepI (z0 R hR) (sepI (z1 R hR) (trivial))⟩
  have hp := pcs_eq [1, 1] 0 cs (by rw [hl]; kernel_rfl)
  have hq : cs = En.enc a0 ++ (En.enc a1 ++ ( [])) := by rw [← d0, ← d1]; exact hp
  rw [hq]; rfl⟩
/-- What hangs on a script that is handed in. -/
theorem proc_of_fz {R : Blks} {w : World} : ∀ {xs : List ProcS}, (∀ x ∈ xs, (Fz.fz x).h R (fun _ => False) w) → (famProc true xs).h R (fun _ => False) w
  | [], _ => trivial
  | x :: xs, h => sepI (sl_of_fz (h x (List.mem_cons_self ..))) (proc_of_fz fun y hy => h y (List.mem_cons_of_mem _ hy))
theorem prog_of_fz {R : Blks} {w : World} : ∀ {xs : List ProgS}, (∀ x ∈ xs, (Fz.fz x).h R (fun _ => False) w) → (famProg true xs).h R (fun _ => False) w
  | [], _ => trivial
  | x :: xs, h => sepI (sepI (sl_of_fz (h x (List.mem_cons_self ..))) (proc_of_fz (fzl_of_fz (h x (List.mem_cons_self ..))))) (prog_of_fz fun y hy => h y (List.mem_cons_of_mem _ hy))
theorem steps_ok_of {x : SL ProgS} {R : Blks} {w : World} (h : (Fz.fz x).h R (fun _ => False) w) : ∀ p ∈ x.d, ∀ q ∈ p.d, ∀ s ∈ q.d, s.ok := fun p hp q hq s hs => step_ok_of (fzl_of_fz (fzl_of_fz (fzl_of_fz h p hp) q hq) s hs)
theorem frames_ok_of {x : SL FrameC} {R : Blks} {w : World} (h : (Fz.fz x).h R (fun _ => False) w) : ∀ f ∈ x.d, f.ok := fun f hf => frame_ok_of (fzl_of_fz h f hf)
/-- The words of a script and what hangs on it. -/
theorem script_pre {a : ScriptI} {R : Blks} {w : World} (h : (Fz.fz a).h R (fun _ => False) w) : ∀ A ∈ [sl true a.progs.s.v a.progs.d, famProg true a.progs.d, sl true a.frames.s.v a.frames.d], A.h R (fun _ => False) w := fun A hA => by
  simp only [List.mem_cons, List.not_mem_nil, or_false] at hA
  rcases hA with rfl | rfl | rfl
  · exact sl_of_fz (sep_l h)
  · exact prog_of_fz (fzl_of_fz (sep_l h))
  · exact sl_of_fz (sep_l (sep_r h))
theorem script_ok {a : ScriptI} {R : Blks} {w : World} (h : (Fz.fz a).h R (fun _ => False) w) : (∀ p ∈ a.progs.d, ∀ q ∈ p.d, ∀ s ∈ q.d, s.ok) ∧ ∀ f ∈ a.frames.d, f.ok := ⟨steps_ok_of (sep_l h), frames_ok_of (sep_l (sep_r h))⟩
theorem mx_of_shape {W : World} (h : W.ShapedOpen Tryd.prog) : ∃ m, W.cell? ⟨0, 0, none⟩ = some (.int .i64 m) :=
  cell_of_shapedOpen_int (zero := #[.int .i64 0]) (t := 3) h (of_decide_eq_true (by kernel_rfl)) (by kernel_rfl) rfl (by kernel_rfl) (by kernel_rfl) Tryd.underlying3
theorem params_stand {P : Program} {fn : Func} (h : fn.params.toList.all (fun t => !P.wantsStandIn t) = true) {j : Nat} {t : TypeId} (ht : fn.params[j]? = some t) : P.wantsStandIn t = false := by
  have := List.all_eq_true.1 h t (by rw [← Array.getElem?_toList] at ht; exact List.mem_of_getElem? ht)
  simpa using this
end Go.Proofs.YtgkhjgpgdfbdpaaDoor
