import Derived.Test.YtlmcoiloepoggaaOA
import Derived.Test.YtlmcoiloepoggaaWkA
import Derived.Test.YtlmcoiloepoggaaRows
import Derived.ProofKit
namespace Go.Proofs.Ytlmcoiloepoggaa
open Go Go.Wk Go.ChangeShapes Go.WideShapes Go.ChangeAt Go.RowKit
theorem Try.own : ownKnob Try.prog.godebug = none := by kernel_rfl
theorem Try.laidOut : laidOutB Try.prog = true := by kernel_rfl
instance : Inp Try.prog 3 Int := inp_int Try.underlying3
instance : Inp Try.prog 4 Bool := inp_bool Try.underlying4
instance : Inp Try.prog 5 UInt8 := inp_u8 Try.underlying5
instance : Fz SemC := ⟨fun p => sep (Fz.fz p.first) (sep (Fz.fz p.most) (fact True)), fun _ => dup_sep (Fz.dup _) (dup_sep (Fz.dup _) (dup_fact _))⟩
instance : Inp Try.prog 23 SemC := ⟨fun {_ _ _ _ _ _ _ cs _} hsp h => by
  obtain ⟨xs, n, _, _, hl, hxl, hf⟩ := DataW.trod_struct Try.underlying23 h
  have g := fun i f hi (hlt : i < xs.length) => (hf i f hi).trans (List.getElem?_eq_getElem hlt)
  obtain ⟨a0, e0, z0⟩ := (inferInstance : Inp Try.prog 3 Int).h hsp (g 0 _ rfl (by rw [hxl]; decide))
  have d0 : (cs.drop 0).take 1 = En.enc a0 := by
    have hc : Try.prog.cellsOf 3 = 1 := by kernel_rfl
    have e : (cs.drop 0).take (Try.prog.cellsOf 3) = En.enc a0 := e0
    rw [hc] at e; exact e
  obtain ⟨a1, e1, z1⟩ := (inferInstance : Inp Try.prog 3 Int).h hsp (g 1 _ rfl (by rw [hxl]; decide))
  have d1 : (cs.drop 1).take 1 = En.enc a1 := by
    have hc : Try.prog.cellsOf 3 = 1 := by kernel_rfl
    have e : (cs.drop 1).take (Try.prog.cellsOf 3) = En.enc a1 := e1
    rw [hc] at e; exact e
  refine ⟨⟨a0, a1⟩, ?_, fun R hR => sepI (z0 R hR) (sepI (z1 R hR) (trivial))⟩
  have hp := pcs_eq [1, 1] 0 cs (by rw [hl]; kernel_rfl)
  have hq : cs = En.enc a0 ++ (En.enc a1 ++ ( [])) := by rw [← d0, ← d1]; exact hp
  rw [hq]; rfl⟩
instance : Inp Try.prog 24 (SL Bool) := inp_slice Try.underlying24 (by kernel_rfl)
instance : Inp Try.prog 63 Msg := inp_slice Try.underlying63 (by kernel_rfl)
instance : Inp Try.prog 60 (SL Msg) := inp_slice Try.underlying60 (by kernel_rfl)
end Go.Proofs.Ytlmcoiloepoggaa
