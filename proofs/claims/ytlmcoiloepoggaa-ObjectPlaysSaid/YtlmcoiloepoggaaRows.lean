/-
  No cell of these rows narrows 'for every input' (looked for: loops, veiled, ifaces, maps, wideKeys, modest, calm, conditions, laid).
  DERIVED. THE GIVEN ROWS OF THIS SEAT. 12 by the template 'for every input the law returns true; each argument reads behind the call as it read before'; 0 by the template 'total and deterministic' (their statements: YtlmcoiloepoggaaTotals.lean).
  GIVEN WITH THE SEED: the statements are not yours to turn. If you find one false, say at which input.
  Laid BY PROGRAM, IN A SANDBOX (cutbox-rows.mjs): the forced cells as the released guide's own fill.sh prints them over the translation 00d3ae29222dfd3c… (all of the seat's roots in one cut). By AI agents, Wed Nov 11 2026. No macro, syntax, notation, axiom, sorry.
-/
import Derived.Test.YtlmcoiloepoggaaChecked
import GoSem.Claim
import GoSem.ClaimJoined
import GoSem.ClaimMapViews
import Derived.JoinedTies
import Derived.KernelRfl
namespace Go.Proofs.Ytlmcoiloepoggaa
/- THE CELL 'sum', in the pinned program and in every row, IS THE sha256 OF THE DUMP (.gsa) THAT YtlmcoiloepoggaaProg.lean LOADS. Nothing in Lean hashes anything: it is a label: what it is worth is what the hold of that sum in a sandbox is worth. -/
noncomputable def Try.pinned : Pinned := { name := "ytlmcoiloepoggaa", sum := "00d3ae29222dfd3ce28ab776f4e0765374e480362c595ea07df66069e264cef7", checked := Try.checked }
namespace Rows
def none {H : Type} : Left H := { results := [], args := [] }

/-- 'anchorholdlaw20.ObjectCounts': WHATEVER THE INPUT: true; the input reads as it did. -/
def objectCountsSpec : ChangeSpec := { name := "objectCounts", fn := fun _ => fun
  | [d1, d2] => { results := [.lit (.bool true)], args := [d1, d2] }
  | _ => none }
def objectCountsRow : OpenClaim := { program := "ytlmcoiloepoggaa", sum := "00d3ae29222dfd3ce28ab776f4e0765374e480362c595ea07df66069e264cef7", func := "anchorhold/anchorholdlaw20.ObjectCounts", spec := "objectCounts", unfollowed := true, recurses := true, apart := false }
def ObjectCountsSaid : Prop := objectCountsRow.holds Try.pinned (OpenSpec.ofChange objectCountsSpec)

/-- ITS FALSE NEIGHBOUR: 'it returns false'. Refute it at one input. -/
def objectCountsWrong : ChangeSpec := { name := "objectCounts", fn := fun _ => fun
  | [d1, d2] => { results := [.lit (.bool false)], args := [d1, d2] }
  | _ => none }
def ObjectCountsWrongFalsely : Prop := objectCountsRow.holds Try.pinned (OpenSpec.ofChange objectCountsWrong)

/-- 'anchorholdlaw21.ProcTurns': WHATEVER THE INPUT: true; the input reads as it did. -/
def procTurnsSpec : ChangeSpec := { name := "procTurns", fn := fun _ => fun
  | [d1, d2] => { results := [.lit (.bool true)], args := [d1, d2] }
  | _ => none }
def procTurnsRow : OpenClaim := { program := "ytlmcoiloepoggaa", sum := "00d3ae29222dfd3ce28ab776f4e0765374e480362c595ea07df66069e264cef7", func := "anchorhold/anchorholdlaw21.ProcTurns", spec := "procTurns", unfollowed := true, recurses := true, apart := false }
def ProcTurnsSaid : Prop := procTurnsRow.holds Try.pinned (OpenSpec.ofChange procTurnsSpec)

/-- ITS FALSE NEIGHBOUR: 'it returns false'. Refute it at one input. -/
def procTurnsWrong : ChangeSpec := { name := "procTurns", fn := fun _ => fun
  | [d1, d2] => { results := [.lit (.bool false)], args := [d1, d2] }
  | _ => none }
def ProcTurnsWrongFalsely : Prop := procTurnsRow.holds Try.pinned (OpenSpec.ofChange procTurnsWrong)

/-- 'anchorholdlaw21.ProcPicks': WHATEVER THE INPUT: true; the input reads as it did. -/
def procPicksSpec : ChangeSpec := { name := "procPicks", fn := fun _ => fun
  | [d1, d2] => { results := [.lit (.bool true)], args := [d1, d2] }
  | _ => none }
def procPicksRow : OpenClaim := { program := "ytlmcoiloepoggaa", sum := "00d3ae29222dfd3ce28ab776f4e0765374e480362c595ea07df66069e264cef7", func := "anchorhold/anchorholdlaw21.ProcPicks", spec := "procPicks", unfollowed := true, recurses := true, apart := false }
def ProcPicksSaid : Prop := procPicksRow.holds Try.pinned (OpenSpec.ofChange procPicksSpec)

/-- ITS FALSE NEIGHBOUR: 'it returns false'. Refute it at one input. -/
def procPicksWrong : ChangeSpec := { name := "procPicks", fn := fun _ => fun
  | [d1, d2] => { results := [.lit (.bool false)], args := [d1, d2] }
  | _ => none }
def ProcPicksWrongFalsely : Prop := procPicksRow.holds Try.pinned (OpenSpec.ofChange procPicksWrong)

/-- 'anchorholdlaw20.ObjectOrder': WHATEVER THE INPUT: true; the input reads as it did. -/
def objectOrderSpec : ChangeSpec := { name := "objectOrder", fn := fun _ => fun
  | [d1, d2] => { results := [.lit (.bool true)], args := [d1, d2] }
  | _ => none }
def objectOrderRow : OpenClaim := { program := "ytlmcoiloepoggaa", sum := "00d3ae29222dfd3ce28ab776f4e0765374e480362c595ea07df66069e264cef7", func := "anchorhold/anchorholdlaw20.ObjectOrder", spec := "objectOrder", unfollowed := true, recurses := true, apart := false }
def ObjectOrderSaid : Prop := objectOrderRow.holds Try.pinned (OpenSpec.ofChange objectOrderSpec)

/-- ITS FALSE NEIGHBOUR: 'it returns false'. Refute it at one input. -/
def objectOrderWrong : ChangeSpec := { name := "objectOrder", fn := fun _ => fun
  | [d1, d2] => { results := [.lit (.bool false)], args := [d1, d2] }
  | _ => none }
def ObjectOrderWrongFalsely : Prop := objectOrderRow.holds Try.pinned (OpenSpec.ofChange objectOrderWrong)

/-- 'anchorholdlaw21.ProcPlays': WHATEVER THE INPUT: true; the input reads as it did. -/
def procPlaysSpec : ChangeSpec := { name := "procPlays", fn := fun _ => fun
  | [d1, d2] => { results := [.lit (.bool true)], args := [d1, d2] }
  | _ => none }
def procPlaysRow : OpenClaim := { program := "ytlmcoiloepoggaa", sum := "00d3ae29222dfd3ce28ab776f4e0765374e480362c595ea07df66069e264cef7", func := "anchorhold/anchorholdlaw21.ProcPlays", spec := "procPlays", unfollowed := true, recurses := true, apart := false }
def ProcPlaysSaid : Prop := procPlaysRow.holds Try.pinned (OpenSpec.ofChange procPlaysSpec)

/-- ITS FALSE NEIGHBOUR: 'it returns false'. Refute it at one input. -/
def procPlaysWrong : ChangeSpec := { name := "procPlays", fn := fun _ => fun
  | [d1, d2] => { results := [.lit (.bool false)], args := [d1, d2] }
  | _ => none }
def ProcPlaysWrongFalsely : Prop := procPlaysRow.holds Try.pinned (OpenSpec.ofChange procPlaysWrong)

/-- 'anchorholdlaw21.ProcNone': WHATEVER THE INPUT: true; the input reads as it did. -/
def procNoneSpec : ChangeSpec := { name := "procNone", fn := fun _ => fun
  | [d] => { results := [.lit (.bool true)], args := [d] }
  | _ => none }
def procNoneRow : OpenClaim := { program := "ytlmcoiloepoggaa", sum := "00d3ae29222dfd3ce28ab776f4e0765374e480362c595ea07df66069e264cef7", func := "anchorhold/anchorholdlaw21.ProcNone", spec := "procNone", unfollowed := true, recurses := true, apart := false }
def ProcNoneSaid : Prop := procNoneRow.holds Try.pinned (OpenSpec.ofChange procNoneSpec)

/-- ITS FALSE NEIGHBOUR: 'it returns false'. Refute it at one input. -/
def procNoneWrong : ChangeSpec := { name := "procNone", fn := fun _ => fun
  | [d] => { results := [.lit (.bool false)], args := [d] }
  | _ => none }
def ProcNoneWrongFalsely : Prop := procNoneRow.holds Try.pinned (OpenSpec.ofChange procNoneWrong)

/-- 'anchorholdlaw18.PortOrder': WHATEVER THE INPUT: true; the input reads as it did. -/
def portOrderSpec : ChangeSpec := { name := "portOrder", fn := fun _ => fun
  | [d1, d2] => { results := [.lit (.bool true)], args := [d1, d2] }
  | _ => none }
def portOrderRow : OpenClaim := { program := "ytlmcoiloepoggaa", sum := "00d3ae29222dfd3ce28ab776f4e0765374e480362c595ea07df66069e264cef7", func := "anchorhold/anchorholdlaw18.PortOrder", spec := "portOrder", unfollowed := true, recurses := true, apart := false }
def PortOrderSaid : Prop := portOrderRow.holds Try.pinned (OpenSpec.ofChange portOrderSpec)

/-- ITS FALSE NEIGHBOUR: 'it returns false'. Refute it at one input. -/
def portOrderWrong : ChangeSpec := { name := "portOrder", fn := fun _ => fun
  | [d1, d2] => { results := [.lit (.bool false)], args := [d1, d2] }
  | _ => none }
def PortOrderWrongFalsely : Prop := portOrderRow.holds Try.pinned (OpenSpec.ofChange portOrderWrong)

/-- 'anchorholdlaw18.PortSamples': WHATEVER THE INPUT: true; the input reads as it did. -/
def portSamplesSpec : ChangeSpec := { name := "portSamples", fn := fun _ => fun
  | [d1, d2, d3] => { results := [.lit (.bool true)], args := [d1, d2, d3] }
  | _ => none }
def portSamplesRow : OpenClaim := { program := "ytlmcoiloepoggaa", sum := "00d3ae29222dfd3ce28ab776f4e0765374e480362c595ea07df66069e264cef7", func := "anchorhold/anchorholdlaw18.PortSamples", spec := "portSamples", unfollowed := true, recurses := true, apart := false }
def PortSamplesSaid : Prop := portSamplesRow.holds Try.pinned (OpenSpec.ofChange portSamplesSpec)

/-- ITS FALSE NEIGHBOUR: 'it returns false'. Refute it at one input. -/
def portSamplesWrong : ChangeSpec := { name := "portSamples", fn := fun _ => fun
  | [d1, d2, d3] => { results := [.lit (.bool false)], args := [d1, d2, d3] }
  | _ => none }
def PortSamplesWrongFalsely : Prop := portSamplesRow.holds Try.pinned (OpenSpec.ofChange portSamplesWrong)

/-- 'anchorholdlaw18.PortPlays': WHATEVER THE INPUT: true; the input reads as it did. -/
def portPlaysSpec : ChangeSpec := { name := "portPlays", fn := fun _ => fun
  | [d1, d2] => { results := [.lit (.bool true)], args := [d1, d2] }
  | _ => none }
def portPlaysRow : OpenClaim := { program := "ytlmcoiloepoggaa", sum := "00d3ae29222dfd3ce28ab776f4e0765374e480362c595ea07df66069e264cef7", func := "anchorhold/anchorholdlaw18.PortPlays", spec := "portPlays", unfollowed := true, recurses := true, apart := false }
def PortPlaysSaid : Prop := portPlaysRow.holds Try.pinned (OpenSpec.ofChange portPlaysSpec)

/-- ITS FALSE NEIGHBOUR: 'it returns false'. Refute it at one input. -/
def portPlaysWrong : ChangeSpec := { name := "portPlays", fn := fun _ => fun
  | [d1, d2] => { results := [.lit (.bool false)], args := [d1, d2] }
  | _ => none }
def PortPlaysWrongFalsely : Prop := portPlaysRow.holds Try.pinned (OpenSpec.ofChange portPlaysWrong)

/-- 'anchorholdlaw18.PortNone': WHATEVER THE INPUT: true; the input reads as it did. -/
def portNoneSpec : ChangeSpec := { name := "portNone", fn := fun _ => fun
  | [d] => { results := [.lit (.bool true)], args := [d] }
  | _ => none }
def portNoneRow : OpenClaim := { program := "ytlmcoiloepoggaa", sum := "00d3ae29222dfd3ce28ab776f4e0765374e480362c595ea07df66069e264cef7", func := "anchorhold/anchorholdlaw18.PortNone", spec := "portNone", unfollowed := true, recurses := true, apart := false }
def PortNoneSaid : Prop := portNoneRow.holds Try.pinned (OpenSpec.ofChange portNoneSpec)

/-- ITS FALSE NEIGHBOUR: 'it returns false'. Refute it at one input. -/
def portNoneWrong : ChangeSpec := { name := "portNone", fn := fun _ => fun
  | [d] => { results := [.lit (.bool false)], args := [d] }
  | _ => none }
def PortNoneWrongFalsely : Prop := portNoneRow.holds Try.pinned (OpenSpec.ofChange portNoneWrong)

/-- 'anchorholdlaw20.ObjectPlays': WHATEVER THE INPUT: true; the input reads as it did. -/
def objectPlaysSpec : ChangeSpec := { name := "objectPlays", fn := fun _ => fun
  | [d1, d2] => { results := [.lit (.bool true)], args := [d1, d2] }
  | _ => none }
def objectPlaysRow : OpenClaim := { program := "ytlmcoiloepoggaa", sum := "00d3ae29222dfd3ce28ab776f4e0765374e480362c595ea07df66069e264cef7", func := "anchorhold/anchorholdlaw20.ObjectPlays", spec := "objectPlays", unfollowed := true, recurses := true, apart := false }
def ObjectPlaysSaid : Prop := objectPlaysRow.holds Try.pinned (OpenSpec.ofChange objectPlaysSpec)

/-- ITS FALSE NEIGHBOUR: 'it returns false'. Refute it at one input. -/
def objectPlaysWrong : ChangeSpec := { name := "objectPlays", fn := fun _ => fun
  | [d1, d2] => { results := [.lit (.bool false)], args := [d1, d2] }
  | _ => none }
def ObjectPlaysWrongFalsely : Prop := objectPlaysRow.holds Try.pinned (OpenSpec.ofChange objectPlaysWrong)

/-- 'anchorholdlaw20.ObjectNone': WHATEVER THE INPUT: true; the input reads as it did. -/
def objectNoneSpec : ChangeSpec := { name := "objectNone", fn := fun _ => fun
  | [d1, d2] => { results := [.lit (.bool true)], args := [d1, d2] }
  | _ => none }
def objectNoneRow : OpenClaim := { program := "ytlmcoiloepoggaa", sum := "00d3ae29222dfd3ce28ab776f4e0765374e480362c595ea07df66069e264cef7", func := "anchorhold/anchorholdlaw20.ObjectNone", spec := "objectNone", unfollowed := true, recurses := true, apart := false }
def ObjectNoneSaid : Prop := objectNoneRow.holds Try.pinned (OpenSpec.ofChange objectNoneSpec)

/-- ITS FALSE NEIGHBOUR: 'it returns false'. Refute it at one input. -/
def objectNoneWrong : ChangeSpec := { name := "objectNone", fn := fun _ => fun
  | [d1, d2] => { results := [.lit (.bool false)], args := [d1, d2] }
  | _ => none }
def ObjectNoneWrongFalsely : Prop := objectNoneRow.holds Try.pinned (OpenSpec.ofChange objectNoneWrong)

/- THE SECOND FORM. 'bulk': how many values and letters a reading holds, each counted each time it is reached (what is shared counts as often as it is met; a slice's spare places count too). A statement '..UptoSaid' is the law's where the arguments, and the package variables that the reading takes, are together of bulk at most 1048576: NARROWER than '..Said'. Prove '..Said' where nothing that the law and all that it calls make is longer than what came in: it says more and counts as full. Else prove '..UptoSaid'. A law counts once. -/
mutual
def uptoBulk {H : Type} : DataW H → Nat
  | .lit (.string bytes) => bytes.length + 1
  | .lit _ => 1
  | .nil => 1
  | .ptr d => uptoBulk d + 1
  | .slice elems spare => uptoBulkAll elems + uptoBulkAll spare + 1
  | .agg parts => uptoBulkAll parts + 1
  | .iface _ d => uptoBulk d + 1
  | .map entries => uptoBulkEntries entries + 1
  | .held _ => 1
def uptoBulkAll {H : Type} : List (DataW H) → Nat
  | [] => 0
  | d :: r => uptoBulk d + uptoBulkAll r
def uptoBulkEntries {H : Type} : List (Lit × DataW H) → Nat
  | [] => 0
  | x :: r => uptoBulkEntry x + uptoBulkEntries r
def uptoBulkEntry {H : Type} : Lit × DataW H → Nat
  | (.string bytes, d) => bytes.length + uptoBulk d + 1
  | (_, d) => uptoBulk d + 1
 end
def uptoSmall : (H : Type) → List (DataW H) → Bool := fun _ ds => decide (uptoBulkAll ds ≤ 1048576)
def OpenSpec.upto (s : _root_.Go.ChangeSpec) : _root_.Go.OpenSpec := { _root_.Go.OpenSpec.ofChange s with cond := some uptoSmall }

/-- 'anchorholdlaw20.ObjectCounts', WHERE WHAT IT READS IS OF BULK AT MOST 1048576: true; the input reads as it did. -/
def objectCountsUptoRow : OpenClaim := { program := "ytlmcoiloepoggaa", sum := "00d3ae29222dfd3ce28ab776f4e0765374e480362c595ea07df66069e264cef7", func := "anchorhold/anchorholdlaw20.ObjectCounts", spec := "objectCounts", unfollowed := true, recurses := true, apart := false, narrowed := true }
def ObjectCountsUptoSaid : Prop := objectCountsUptoRow.holds Try.pinned (OpenSpec.upto objectCountsSpec)

/-- 'anchorholdlaw21.ProcTurns', WHERE WHAT IT READS IS OF BULK AT MOST 1048576: true; the input reads as it did. -/
def procTurnsUptoRow : OpenClaim := { program := "ytlmcoiloepoggaa", sum := "00d3ae29222dfd3ce28ab776f4e0765374e480362c595ea07df66069e264cef7", func := "anchorhold/anchorholdlaw21.ProcTurns", spec := "procTurns", unfollowed := true, recurses := true, apart := false, narrowed := true }
def ProcTurnsUptoSaid : Prop := procTurnsUptoRow.holds Try.pinned (OpenSpec.upto procTurnsSpec)

/-- 'anchorholdlaw21.ProcPicks', WHERE WHAT IT READS IS OF BULK AT MOST 1048576: true; the input reads as it did. -/
def procPicksUptoRow : OpenClaim := { program := "ytlmcoiloepoggaa", sum := "00d3ae29222dfd3ce28ab776f4e0765374e480362c595ea07df66069e264cef7", func := "anchorhold/anchorholdlaw21.ProcPicks", spec := "procPicks", unfollowed := true, recurses := true, apart := false, narrowed := true }
def ProcPicksUptoSaid : Prop := procPicksUptoRow.holds Try.pinned (OpenSpec.upto procPicksSpec)

/-- 'anchorholdlaw20.ObjectOrder', WHERE WHAT IT READS IS OF BULK AT MOST 1048576: true; the input reads as it did. -/
def objectOrderUptoRow : OpenClaim := { program := "ytlmcoiloepoggaa", sum := "00d3ae29222dfd3ce28ab776f4e0765374e480362c595ea07df66069e264cef7", func := "anchorhold/anchorholdlaw20.ObjectOrder", spec := "objectOrder", unfollowed := true, recurses := true, apart := false, narrowed := true }
def ObjectOrderUptoSaid : Prop := objectOrderUptoRow.holds Try.pinned (OpenSpec.upto objectOrderSpec)

/-- 'anchorholdlaw21.ProcPlays', WHERE WHAT IT READS IS OF BULK AT MOST 1048576: true; the input reads as it did. -/
def procPlaysUptoRow : OpenClaim := { program := "ytlmcoiloepoggaa", sum := "00d3ae29222dfd3ce28ab776f4e0765374e480362c595ea07df66069e264cef7", func := "anchorhold/anchorholdlaw21.ProcPlays", spec := "procPlays", unfollowed := true, recurses := true, apart := false, narrowed := true }
def ProcPlaysUptoSaid : Prop := procPlaysUptoRow.holds Try.pinned (OpenSpec.upto procPlaysSpec)

/-- 'anchorholdlaw21.ProcNone', WHERE WHAT IT READS IS OF BULK AT MOST 1048576: true; the input reads as it did. -/
def procNoneUptoRow : OpenClaim := { program := "ytlmcoiloepoggaa", sum := "00d3ae29222dfd3ce28ab776f4e0765374e480362c595ea07df66069e264cef7", func := "anchorhold/anchorholdlaw21.ProcNone", spec := "procNone", unfollowed := true, recurses := true, apart := false, narrowed := true }
def ProcNoneUptoSaid : Prop := procNoneUptoRow.holds Try.pinned (OpenSpec.upto procNoneSpec)

/-- 'anchorholdlaw18.PortOrder', WHERE WHAT IT READS IS OF BULK AT MOST 1048576: true; the input reads as it did. -/
def portOrderUptoRow : OpenClaim := { program := "ytlmcoiloepoggaa", sum := "00d3ae29222dfd3ce28ab776f4e0765374e480362c595ea07df66069e264cef7", func := "anchorhold/anchorholdlaw18.PortOrder", spec := "portOrder", unfollowed := true, recurses := true, apart := false, narrowed := true }
def PortOrderUptoSaid : Prop := portOrderUptoRow.holds Try.pinned (OpenSpec.upto portOrderSpec)

/-- 'anchorholdlaw18.PortSamples', WHERE WHAT IT READS IS OF BULK AT MOST 1048576: true; the input reads as it did. -/
def portSamplesUptoRow : OpenClaim := { program := "ytlmcoiloepoggaa", sum := "00d3ae29222dfd3ce28ab776f4e0765374e480362c595ea07df66069e264cef7", func := "anchorhold/anchorholdlaw18.PortSamples", spec := "portSamples", unfollowed := true, recurses := true, apart := false, narrowed := true }
def PortSamplesUptoSaid : Prop := portSamplesUptoRow.holds Try.pinned (OpenSpec.upto portSamplesSpec)

/-- 'anchorholdlaw18.PortPlays', WHERE WHAT IT READS IS OF BULK AT MOST 1048576: true; the input reads as it did. -/
def portPlaysUptoRow : OpenClaim := { program := "ytlmcoiloepoggaa", sum := "00d3ae29222dfd3ce28ab776f4e0765374e480362c595ea07df66069e264cef7", func := "anchorhold/anchorholdlaw18.PortPlays", spec := "portPlays", unfollowed := true, recurses := true, apart := false, narrowed := true }
def PortPlaysUptoSaid : Prop := portPlaysUptoRow.holds Try.pinned (OpenSpec.upto portPlaysSpec)

/-- 'anchorholdlaw18.PortNone', WHERE WHAT IT READS IS OF BULK AT MOST 1048576: true; the input reads as it did. -/
def portNoneUptoRow : OpenClaim := { program := "ytlmcoiloepoggaa", sum := "00d3ae29222dfd3ce28ab776f4e0765374e480362c595ea07df66069e264cef7", func := "anchorhold/anchorholdlaw18.PortNone", spec := "portNone", unfollowed := true, recurses := true, apart := false, narrowed := true }
def PortNoneUptoSaid : Prop := portNoneUptoRow.holds Try.pinned (OpenSpec.upto portNoneSpec)

/-- 'anchorholdlaw20.ObjectPlays', WHERE WHAT IT READS IS OF BULK AT MOST 1048576: true; the input reads as it did. -/
def objectPlaysUptoRow : OpenClaim := { program := "ytlmcoiloepoggaa", sum := "00d3ae29222dfd3ce28ab776f4e0765374e480362c595ea07df66069e264cef7", func := "anchorhold/anchorholdlaw20.ObjectPlays", spec := "objectPlays", unfollowed := true, recurses := true, apart := false, narrowed := true }
def ObjectPlaysUptoSaid : Prop := objectPlaysUptoRow.holds Try.pinned (OpenSpec.upto objectPlaysSpec)

/-- 'anchorholdlaw20.ObjectNone', WHERE WHAT IT READS IS OF BULK AT MOST 1048576: true; the input reads as it did. -/
def objectNoneUptoRow : OpenClaim := { program := "ytlmcoiloepoggaa", sum := "00d3ae29222dfd3ce28ab776f4e0765374e480362c595ea07df66069e264cef7", func := "anchorhold/anchorholdlaw20.ObjectNone", spec := "objectNone", unfollowed := true, recurses := true, apart := false, narrowed := true }
def ObjectNoneUptoSaid : Prop := objectNoneUptoRow.holds Try.pinned (OpenSpec.upto objectNoneSpec)

end Rows
end Go.Proofs.Ytlmcoiloepoggaa
