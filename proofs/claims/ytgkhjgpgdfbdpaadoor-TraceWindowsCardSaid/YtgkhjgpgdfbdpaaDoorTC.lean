import Derived.Test.YtgkhjgpgdfbdpaaDoorYbx
import Derived.Test.YtgkhjgpgdfbdpaaDoorWkA
import Derived.Test.YtgkhjgpgdfbdpaaDoorRows
import Derived.Test.YtgkhjgpgdfbdpaaDoorTie
import Derived.Test.YtgkhjgpgdfbdpaaDoorCards
import Derived.ProofKit
import Derived.Deep.DeepHandedRow
import Derived.Deep.DeepWitnessRowRef
import Derived.SevenTiedAt
import Derived.Lay
import Derived.Shelf.Vars
namespace Go.Proofs.YtgkhjgpgdfbdpaaDoor
open Go Go.Wk Go.ChangeShapes Go.WideShapes Go.ChangeAt Go.RowKit
set_option maxRecDepth 100000
theorem Tryd.own : ownKnob Tryd.prog.godebug = none := by kernel_rfl
theorem Tryd.laidOut : laidOutB Tryd.prog = true := by kernel_rfl
instance : Inp Tryd.prog 3 Int := inp_int Tryd.underlying3
instance : Inp Tryd.prog 9 Str := inp_str Tryd.underlying9
instance : Fz EvC := ⟨fun p => sep (Fz.fz p.part) (sep (Fz.fz p.win) (sep (Fz.fz p.proc) (sep (Fz.fz p.call) (sep (Fz.fz p.code) (sep (Fz.fz p.value) (fact True)))))), fun _ => dup_sep (Fz.dup _) (dup_sep (Fz.dup _) (dup_sep (Fz.dup _) (dup_sep (Fz.dup _) (dup_sep (Fz.dup _) (dup_sep (Fz.dup _) (dup_fact _))))))⟩
instance : Inp Tryd.prog 78 EvC := ⟨fun {_ _ _ _ _ _ _ cs _} hsp h => by
  obtain ⟨xs, n, _, _, hl, hxl, hf⟩ := DataW.trod_struct Tryd.underlying78 h
  have g := fun i f hi (hlt : i < xs.length) => (hf i f hi).trans (List.getElem?_eq_getElem hlt)
  obtain ⟨a0, e0, z0⟩ := (inferInstance : Inp Tryd.prog 3 Int).h hsp (g 0 _ rfl (by rw [hxl]; decide))
  have d0 : (cs.drop 0).take 1 = En.enc a0 := by
    have hc : Tryd.prog.cellsOf 3 = 1 := by kernel_rfl
    have e : (cs.drop 0).take (Tryd.prog.cellsOf 3) = En.enc a0 := e0
    rw [hc] at e; exact e
  obtain ⟨a1, e1, z1⟩ := (inferInstance : Inp Tryd.prog 3 Int).h hsp (g 1 _ rfl (by rw [hxl]; decide))
  have d1 : (cs.drop 1).take 1 = En.enc a1 := by
    have hc : Tryd.prog.cellsOf 3 = 1 := by kernel_rfl
    have e : (cs.drop 1).take (Tryd.prog.cellsOf 3) = En.enc a1 := e1
    rw [hc] at e; exact e
  obtain ⟨a2, e2, z2⟩ := (inferInstance : Inp Tryd.prog 3 Int).h hsp (g 2 _ rfl (by rw [hxl]; decide))
  have d2 : (cs.drop 2).take 1 = En.enc a2 := by
    have hc : Tryd.prog.cellsOf 3 = 1 := by kernel_rfl
    have e : (cs.drop 2).take (Tryd.prog.cellsOf 3) = En.enc a2 := e2
    rw [hc] at e; exact e
  obtain ⟨a3, e3, z3⟩ := (inferInstance : Inp Tryd.prog 3 Int).h hsp (g 3 _ rfl (by rw [hxl]; decide))
  have d3 : (cs.drop 3).take 1 = En.enc a3 := by
    have hc : Tryd.prog.cellsOf 3 = 1 := by kernel_rfl
    have e : (cs.drop 3).take (Tryd.prog.cellsOf 3) = En.enc a3 := e3
    rw [hc] at e; exact e
  obtain ⟨a4, e4, z4⟩ := (inferInstance : Inp Tryd.prog 3 Int).h hsp (g 4 _ rfl (by rw [hxl]; decide))
  have d4 : (cs.drop 4).take 1 = En.enc a4 := by
    have hc : Tryd.prog.cellsOf 3 = 1 := by kernel_rfl
    have e : (cs.drop 4).take (Tryd.prog.cellsOf 3) = En.enc a4 := e4
    rw [hc] at e; exact e
  obtain ⟨a5, e5, z5⟩ := (inferInstance : Inp Tryd.prog 3 Int).h hsp (g 5 _ rfl (by rw [hxl]; decide))
  have d5 : (cs.drop 5).take 1 = En.enc a5 := by
    have hc : Tryd.prog.cellsOf 3 = 1 := by kernel_rfl
    have e : (cs.drop 5).take (Tryd.prog.cellsOf 3) = En.enc a5 := e5
    rw [hc] at e; exact e
  refine ⟨⟨a0, a1, a2, a3, a4, a5⟩, ?_, fun R hR => sepI (z0 R hR) (sepI (z1 R hR) (sepI (z2 R hR) (sepI (z3 R hR) (sepI (z4 R hR) (sepI (z5 R hR) (trivial))))))⟩
  have hp := pcs_eq [1, 1, 1, 1, 1, 1] 0 cs (by rw [hl]; kernel_rfl)
  have hq : cs = En.enc a0 ++ (En.enc a1 ++ (En.enc a2 ++ (En.enc a3 ++ (En.enc a4 ++ (En.enc a5 ++ ( [])))))) := by rw [← d0, ← d1, ← d2, ← d3, ← d4, ← d5]; exact hp
  rw [hq]; rfl⟩
instance : Inp Tryd.prog 22 (SL EvC) := inp_slice Tryd.underlying22 (by kernel_rfl)
theorem ev_ok_of {s : EvC} {R : Blks} {w : World} (h : (Fz.fz s).h R (fun _ => False) w) : s.ok := ⟨sep_l h, sep_l (sep_r h), sep_l (sep_r (sep_r h)), sep_l (sep_r (sep_r (sep_r h))), sep_l (sep_r (sep_r (sep_r (sep_r h)))), sep_l (sep_r (sep_r (sep_r (sep_r (sep_r h)))))⟩
theorem evs_ok_of {x : SL EvC} {R : Blks} {w : World} (h : (Fz.fz x).h R (fun _ => False) w) : ∀ e ∈ x.d, e.ok := fun e he => ev_ok_of (fzl_of_fz h e he)
theorem int_ok_of {n : Int} {R : Blks} {w : World} (h : (Fz.fz n).h R (fun _ => False) w) : I64 n := h
theorem mx_of_shape {W : World} (h : W.ShapedOpen Tryd.prog) : ∃ m, W.cell? ⟨0, 0, none⟩ = some (.int .i64 m) :=
  cell_of_shapedOpen_int (zero := #[.int .i64 0]) (t := 3) h (of_decide_eq_true (by kernel_rfl)) (by kernel_rfl) rfl (by kernel_rfl) (by kernel_rfl) Tryd.underlying3
theorem params_stand {P : Program} {fn : Func} (h : fn.params.toList.all (fun t => !P.wantsStandIn t) = true) {j : Nat} {t : TypeId} (ht : fn.params[j]? = some t) : P.wantsStandIn t = false := by
  have := List.all_eq_true.1 h t (by rw [← Array.getElem?_toList] at ht; exact List.mem_of_getElem? ht)
  simpa using this
end Go.Proofs.YtgkhjgpgdfbdpaaDoor
