/-
  No cell of these rows narrows 'for every input' (looked for: loops, veiled, ifaces, maps, wideKeys, modest, calm, conditions, laid).
  DERIVED. THE GIVEN ROWS OF THIS SEAT. 5 by the template 'for every input the law returns true; each argument reads behind the call as it read before'; 0 by the template 'total and deterministic' (their statements: YtacmaamllpiloaaGreatTotals.lean).
  GIVEN WITH THE SEED: the statements are not yours to turn. If you find one false, say at which input.
  Laid BY PROGRAM, IN A SANDBOX (cutbox-rows.mjs): the forced cells as the released guide's own fill.sh prints them over the translation cc07235db10cdcb8… (all of the seat's roots in one cut). By AI agents, Wed Nov 11 2026. No macro, syntax, notation, axiom, sorry.
-/
import Derived.Test.YtacmaamllpiloaaGreatChecked
import GoSem.Claim
import GoSem.ClaimJoined
import GoSem.ClaimMapViews
import Derived.JoinedTies
import Derived.KernelRfl
namespace Go.Proofs.YtacmaamllpiloaaGreat
/- THE CELL 'sum', in the pinned program and in every row, IS THE sha256 OF THE DUMP (.gsa) THAT YtacmaamllpiloaaGreatProg.lean LOADS. Nothing in Lean hashes anything: it is a label: what it is worth is what the hold of that sum in a sandbox is worth. -/
noncomputable def Tryz.pinned : Pinned := { name := "ytacmaamllpiloaagreat", sum := "cc07235db10cdcb83e11fc614b46db5baa22759a922bb78fe8a5357264aa9b4e", checked := Tryz.checked }
namespace Rows
def none {H : Type} : Left H := { results := [], args := [] }

/-- 'anchorholdlaw24.CellNone': WHATEVER THE INPUT: true; the input reads as it did. -/
def cellNoneSpec : ChangeSpec := { name := "cellNone", fn := fun _ => fun
  | [d] => { results := [.lit (.bool true)], args := [d] }
  | _ => none }
def cellNoneRow : OpenClaim := { program := "ytacmaamllpiloaagreat", sum := "cc07235db10cdcb83e11fc614b46db5baa22759a922bb78fe8a5357264aa9b4e", func := "anchorhold/anchorholdlaw24.CellNone", spec := "cellNone", unfollowed := true, recurses := true, apart := false }
def CellNoneSaid : Prop := cellNoneRow.holds Tryz.pinned (OpenSpec.ofChange cellNoneSpec)

/-- ITS FALSE NEIGHBOUR: 'it returns false'. Refute it at one input. -/
def cellNoneWrong : ChangeSpec := { name := "cellNone", fn := fun _ => fun
  | [d] => { results := [.lit (.bool false)], args := [d] }
  | _ => none }
def CellNoneWrongFalsely : Prop := cellNoneRow.holds Tryz.pinned (OpenSpec.ofChange cellNoneWrong)

/-- 'anchorholdlaw24.CellBounds': WHATEVER THE INPUT: true; the input reads as it did. -/
def cellBoundsSpec : ChangeSpec := { name := "cellBounds", fn := fun _ => fun
  | [d] => { results := [.lit (.bool true)], args := [d] }
  | _ => none }
def cellBoundsRow : OpenClaim := { program := "ytacmaamllpiloaagreat", sum := "cc07235db10cdcb83e11fc614b46db5baa22759a922bb78fe8a5357264aa9b4e", func := "anchorhold/anchorholdlaw24.CellBounds", spec := "cellBounds", unfollowed := true, recurses := true, apart := false }
def CellBoundsSaid : Prop := cellBoundsRow.holds Tryz.pinned (OpenSpec.ofChange cellBoundsSpec)

/-- ITS FALSE NEIGHBOUR: 'it returns false'. Refute it at one input. -/
def cellBoundsWrong : ChangeSpec := { name := "cellBounds", fn := fun _ => fun
  | [d] => { results := [.lit (.bool false)], args := [d] }
  | _ => none }
def CellBoundsWrongFalsely : Prop := cellBoundsRow.holds Tryz.pinned (OpenSpec.ofChange cellBoundsWrong)

/-- 'anchorholdlaw24.CellAlone': WHATEVER THE INPUT: true; the input reads as it did. -/
def cellAloneSpec : ChangeSpec := { name := "cellAlone", fn := fun _ => fun
  | [d1, d2] => { results := [.lit (.bool true)], args := [d1, d2] }
  | _ => none }
def cellAloneRow : OpenClaim := { program := "ytacmaamllpiloaagreat", sum := "cc07235db10cdcb83e11fc614b46db5baa22759a922bb78fe8a5357264aa9b4e", func := "anchorhold/anchorholdlaw24.CellAlone", spec := "cellAlone", unfollowed := true, recurses := true, apart := false }
def CellAloneSaid : Prop := cellAloneRow.holds Tryz.pinned (OpenSpec.ofChange cellAloneSpec)

/-- ITS FALSE NEIGHBOUR: 'it returns false'. Refute it at one input. -/
def cellAloneWrong : ChangeSpec := { name := "cellAlone", fn := fun _ => fun
  | [d1, d2] => { results := [.lit (.bool false)], args := [d1, d2] }
  | _ => none }
def CellAloneWrongFalsely : Prop := cellAloneRow.holds Tryz.pinned (OpenSpec.ofChange cellAloneWrong)

/-- 'anchorholdlaw24.CellPlays': WHATEVER THE INPUT: true; the input reads as it did. -/
def cellPlaysSpec : ChangeSpec := { name := "cellPlays", fn := fun _ => fun
  | [d] => { results := [.lit (.bool true)], args := [d] }
  | _ => none }
def cellPlaysRow : OpenClaim := { program := "ytacmaamllpiloaagreat", sum := "cc07235db10cdcb83e11fc614b46db5baa22759a922bb78fe8a5357264aa9b4e", func := "anchorhold/anchorholdlaw24.CellPlays", spec := "cellPlays", unfollowed := true, recurses := true, apart := false }
def CellPlaysSaid : Prop := cellPlaysRow.holds Tryz.pinned (OpenSpec.ofChange cellPlaysSpec)

/-- ITS FALSE NEIGHBOUR: 'it returns false'. Refute it at one input. -/
def cellPlaysWrong : ChangeSpec := { name := "cellPlays", fn := fun _ => fun
  | [d] => { results := [.lit (.bool false)], args := [d] }
  | _ => none }
def CellPlaysWrongFalsely : Prop := cellPlaysRow.holds Tryz.pinned (OpenSpec.ofChange cellPlaysWrong)

/-- 'anchorholdlaw24.CellPieces': WHATEVER THE INPUT: true; the input reads as it did. -/
def cellPiecesSpec : ChangeSpec := { name := "cellPieces", fn := fun _ => fun
  | [d1, d2] => { results := [.lit (.bool true)], args := [d1, d2] }
  | _ => none }
def cellPiecesRow : OpenClaim := { program := "ytacmaamllpiloaagreat", sum := "cc07235db10cdcb83e11fc614b46db5baa22759a922bb78fe8a5357264aa9b4e", func := "anchorhold/anchorholdlaw24.CellPieces", spec := "cellPieces", unfollowed := true, recurses := true, apart := false }
def CellPiecesSaid : Prop := cellPiecesRow.holds Tryz.pinned (OpenSpec.ofChange cellPiecesSpec)

/-- ITS FALSE NEIGHBOUR: 'it returns false'. Refute it at one input. -/
def cellPiecesWrong : ChangeSpec := { name := "cellPieces", fn := fun _ => fun
  | [d1, d2] => { results := [.lit (.bool false)], args := [d1, d2] }
  | _ => none }
def CellPiecesWrongFalsely : Prop := cellPiecesRow.holds Tryz.pinned (OpenSpec.ofChange cellPiecesWrong)

/- THE SECOND FORM. 'bulk': how many values and letters a reading holds, each counted each time it is reached (what is shared counts as often as it is met; a slice's spare places count too). A statement '..UptoSaid' is the law's where the arguments, and the package variables that the reading takes, are together of bulk at most 1048576: NARROWER than '..Said'. Prove '..Said' where nothing that the law and all that it calls make is longer than what came in: it says more and counts as full. Else prove '..UptoSaid'. A law counts once. -/
mutual
def uptoBulk {H : Type} : DataW H → Nat
  | .lit (.string bytes) => bytes.length + 1
  | .lit _ => 1
  | .nil => 1
  | .ptr d => uptoBulk d + 1
  | .slice elems spare => uptoBulkAll elems + uptoBulkAll spare + 1
  | .agg parts => uptoBulkAll parts + 1
  | .iface _ d => uptoBulk d + 1
  | .map entries => uptoBulkEntries entries + 1
  | .held _ => 1
def uptoBulkAll {H : Type} : List (DataW H) → Nat
  | [] => 0
  | d :: r => uptoBulk d + uptoBulkAll r
def uptoBulkEntries {H : Type} : List (Lit × DataW H) → Nat
  | [] => 0
  | x :: r => uptoBulkEntry x + uptoBulkEntries r
def uptoBulkEntry {H : Type} : Lit × DataW H → Nat
  | (.string bytes, d) => bytes.length + uptoBulk d + 1
  | (_, d) => uptoBulk d + 1
 end
def uptoSmall : (H : Type) → List (DataW H) → Bool := fun _ ds => decide (uptoBulkAll ds ≤ 1048576)
def OpenSpec.upto (s : _root_.Go.ChangeSpec) : _root_.Go.OpenSpec := { _root_.Go.OpenSpec.ofChange s with cond := some uptoSmall }

/-- 'anchorholdlaw24.CellNone', WHERE WHAT IT READS IS OF BULK AT MOST 1048576: true; the input reads as it did. -/
def cellNoneUptoRow : OpenClaim := { program := "ytacmaamllpiloaagreat", sum := "cc07235db10cdcb83e11fc614b46db5baa22759a922bb78fe8a5357264aa9b4e", func := "anchorhold/anchorholdlaw24.CellNone", spec := "cellNone", unfollowed := true, recurses := true, apart := false, narrowed := true }
def CellNoneUptoSaid : Prop := cellNoneUptoRow.holds Tryz.pinned (OpenSpec.upto cellNoneSpec)

/-- 'anchorholdlaw24.CellBounds', WHERE WHAT IT READS IS OF BULK AT MOST 1048576: true; the input reads as it did. -/
def cellBoundsUptoRow : OpenClaim := { program := "ytacmaamllpiloaagreat", sum := "cc07235db10cdcb83e11fc614b46db5baa22759a922bb78fe8a5357264aa9b4e", func := "anchorhold/anchorholdlaw24.CellBounds", spec := "cellBounds", unfollowed := true, recurses := true, apart := false, narrowed := true }
def CellBoundsUptoSaid : Prop := cellBoundsUptoRow.holds Tryz.pinned (OpenSpec.upto cellBoundsSpec)

/-- 'anchorholdlaw24.CellAlone', WHERE WHAT IT READS IS OF BULK AT MOST 1048576: true; the input reads as it did. -/
def cellAloneUptoRow : OpenClaim := { program := "ytacmaamllpiloaagreat", sum := "cc07235db10cdcb83e11fc614b46db5baa22759a922bb78fe8a5357264aa9b4e", func := "anchorhold/anchorholdlaw24.CellAlone", spec := "cellAlone", unfollowed := true, recurses := true, apart := false, narrowed := true }
def CellAloneUptoSaid : Prop := cellAloneUptoRow.holds Tryz.pinned (OpenSpec.upto cellAloneSpec)

/-- 'anchorholdlaw24.CellPlays', WHERE WHAT IT READS IS OF BULK AT MOST 1048576: true; the input reads as it did. -/
def cellPlaysUptoRow : OpenClaim := { program := "ytacmaamllpiloaagreat", sum := "cc07235db10cdcb83e11fc614b46db5baa22759a922bb78fe8a5357264aa9b4e", func := "anchorhold/anchorholdlaw24.CellPlays", spec := "cellPlays", unfollowed := true, recurses := true, apart := false, narrowed := true }
def CellPlaysUptoSaid : Prop := cellPlaysUptoRow.holds Tryz.pinned (OpenSpec.upto cellPlaysSpec)

/-- 'anchorholdlaw24.CellPieces', WHERE WHAT IT READS IS OF BULK AT MOST 1048576: true; the input reads as it did. -/
def cellPiecesUptoRow : OpenClaim := { program := "ytacmaamllpiloaagreat", sum := "cc07235db10cdcb83e11fc614b46db5baa22759a922bb78fe8a5357264aa9b4e", func := "anchorhold/anchorholdlaw24.CellPieces", spec := "cellPieces", unfollowed := true, recurses := true, apart := false, narrowed := true }
def CellPiecesUptoSaid : Prop := cellPiecesUptoRow.holds Tryz.pinned (OpenSpec.upto cellPiecesSpec)

end Rows
end Go.Proofs.YtacmaamllpiloaaGreat
