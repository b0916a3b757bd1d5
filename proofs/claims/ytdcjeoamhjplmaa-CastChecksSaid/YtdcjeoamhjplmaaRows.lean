/-
  No cell of these rows narrows 'for every input' (looked for: loops, veiled, ifaces, maps, wideKeys, modest, calm, conditions, laid).
  DERIVED. THE GIVEN ROWS OF THIS SEAT. 11 by the template 'for every input the law returns true; each argument reads behind the call as it read before'; 0 by the template 'total and deterministic' (their statements: YtdcjeoamhjplmaaTotals.lean).
  GIVEN WITH THE SEED: the statements are not yours to turn. If you find one false, say at which input.
  Laid BY PROGRAM, IN A SANDBOX (cutbox-rows.mjs): the forced cells as the released guide's own fill.sh prints them over the translation d2d2a05ce919fcad… (all of the seat's roots in one cut). By AI agents, Wed Nov 11 2026. No macro, syntax, notation, axiom, sorry.
-/
import Derived.Test.YtdcjeoamhjplmaaChecked
import GoSem.Claim
import GoSem.ClaimJoined
import GoSem.ClaimMapViews
import Derived.JoinedTies
import Derived.KernelRfl
namespace Go.Proofs.Ytdcjeoamhjplmaa
/- THE CELL 'sum', in the pinned program and in every row, IS THE sha256 OF THE DUMP (.gsa) THAT YtdcjeoamhjplmaaProg.lean LOADS. Nothing in Lean hashes anything: it is a label: what it is worth is what the hold of that sum in a sandbox is worth. -/
noncomputable def Try.pinned : Pinned := { name := "ytdcjeoamhjplmaa", sum := "d2d2a05ce919fcadc1d097765ef977c5b559bfdc1197dec183daa02203b14c1e", checked := Try.checked }
namespace Rows
def none {H : Type} : Left H := { results := [], args := [] }

/-- 'radomelaw09.CastStates': WHATEVER THE INPUT: true; the input reads as it did. -/
def castStatesSpec : ChangeSpec := { name := "castStates", fn := fun _ => fun
  | [d1, d2, d3] => { results := [.lit (.bool true)], args := [d1, d2, d3] }
  | _ => none }
def castStatesRow : OpenClaim := { program := "ytdcjeoamhjplmaa", sum := "d2d2a05ce919fcadc1d097765ef977c5b559bfdc1197dec183daa02203b14c1e", func := "radome/radomelaw09.CastStates", spec := "castStates", unfollowed := true, recurses := true, apart := false }
def CastStatesSaid : Prop := castStatesRow.holds Try.pinned (OpenSpec.ofChange castStatesSpec)

/-- ITS FALSE NEIGHBOUR: 'it returns false'. Refute it at one input. -/
def castStatesWrong : ChangeSpec := { name := "castStates", fn := fun _ => fun
  | [d1, d2, d3] => { results := [.lit (.bool false)], args := [d1, d2, d3] }
  | _ => none }
def CastStatesWrongFalsely : Prop := castStatesRow.holds Try.pinned (OpenSpec.ofChange castStatesWrong)

/-- 'radomelaw09.CastNarrow': WHATEVER THE INPUT: true; the input reads as it did. -/
def castNarrowSpec : ChangeSpec := { name := "castNarrow", fn := fun _ => fun
  | [d1, d2, d3, d4, d5] => { results := [.lit (.bool true)], args := [d1, d2, d3, d4, d5] }
  | _ => none }
def castNarrowRow : OpenClaim := { program := "ytdcjeoamhjplmaa", sum := "d2d2a05ce919fcadc1d097765ef977c5b559bfdc1197dec183daa02203b14c1e", func := "radome/radomelaw09.CastNarrow", spec := "castNarrow", unfollowed := true, recurses := true, apart := false }
def CastNarrowSaid : Prop := castNarrowRow.holds Try.pinned (OpenSpec.ofChange castNarrowSpec)

/-- ITS FALSE NEIGHBOUR: 'it returns false'. Refute it at one input. -/
def castNarrowWrong : ChangeSpec := { name := "castNarrow", fn := fun _ => fun
  | [d1, d2, d3, d4, d5] => { results := [.lit (.bool false)], args := [d1, d2, d3, d4, d5] }
  | _ => none }
def CastNarrowWrongFalsely : Prop := castNarrowRow.holds Try.pinned (OpenSpec.ofChange castNarrowWrong)

/-- 'radomelaw09.CastMoved': WHATEVER THE INPUT: true; the input reads as it did. -/
def castMovedSpec : ChangeSpec := { name := "castMoved", fn := fun _ => fun
  | [d1, d2, d3] => { results := [.lit (.bool true)], args := [d1, d2, d3] }
  | _ => none }
def castMovedRow : OpenClaim := { program := "ytdcjeoamhjplmaa", sum := "d2d2a05ce919fcadc1d097765ef977c5b559bfdc1197dec183daa02203b14c1e", func := "radome/radomelaw09.CastMoved", spec := "castMoved", unfollowed := true, recurses := true, apart := false }
def CastMovedSaid : Prop := castMovedRow.holds Try.pinned (OpenSpec.ofChange castMovedSpec)

/-- ITS FALSE NEIGHBOUR: 'it returns false'. Refute it at one input. -/
def castMovedWrong : ChangeSpec := { name := "castMoved", fn := fun _ => fun
  | [d1, d2, d3] => { results := [.lit (.bool false)], args := [d1, d2, d3] }
  | _ => none }
def CastMovedWrongFalsely : Prop := castMovedRow.holds Try.pinned (OpenSpec.ofChange castMovedWrong)

/-- 'radomelaw09.CastTimes': WHATEVER THE INPUT: true; the input reads as it did. -/
def castTimesSpec : ChangeSpec := { name := "castTimes", fn := fun _ => fun
  | [d1, d2, d3, d4] => { results := [.lit (.bool true)], args := [d1, d2, d3, d4] }
  | _ => none }
def castTimesRow : OpenClaim := { program := "ytdcjeoamhjplmaa", sum := "d2d2a05ce919fcadc1d097765ef977c5b559bfdc1197dec183daa02203b14c1e", func := "radome/radomelaw09.CastTimes", spec := "castTimes", unfollowed := true, recurses := true, apart := false }
def CastTimesSaid : Prop := castTimesRow.holds Try.pinned (OpenSpec.ofChange castTimesSpec)

/-- ITS FALSE NEIGHBOUR: 'it returns false'. Refute it at one input. -/
def castTimesWrong : ChangeSpec := { name := "castTimes", fn := fun _ => fun
  | [d1, d2, d3, d4] => { results := [.lit (.bool false)], args := [d1, d2, d3, d4] }
  | _ => none }
def CastTimesWrongFalsely : Prop := castTimesRow.holds Try.pinned (OpenSpec.ofChange castTimesWrong)

/-- 'radomelaw09.CastWhen': WHATEVER THE INPUT: true; the input reads as it did. -/
def castWhenSpec : ChangeSpec := { name := "castWhen", fn := fun _ => fun
  | [d1, d2, d3] => { results := [.lit (.bool true)], args := [d1, d2, d3] }
  | _ => none }
def castWhenRow : OpenClaim := { program := "ytdcjeoamhjplmaa", sum := "d2d2a05ce919fcadc1d097765ef977c5b559bfdc1197dec183daa02203b14c1e", func := "radome/radomelaw09.CastWhen", spec := "castWhen", unfollowed := true, recurses := true, apart := false }
def CastWhenSaid : Prop := castWhenRow.holds Try.pinned (OpenSpec.ofChange castWhenSpec)

/-- ITS FALSE NEIGHBOUR: 'it returns false'. Refute it at one input. -/
def castWhenWrong : ChangeSpec := { name := "castWhen", fn := fun _ => fun
  | [d1, d2, d3] => { results := [.lit (.bool false)], args := [d1, d2, d3] }
  | _ => none }
def CastWhenWrongFalsely : Prop := castWhenRow.holds Try.pinned (OpenSpec.ofChange castWhenWrong)

/-- 'radomelaw09.CastHeld': WHATEVER THE INPUT: true; the input reads as it did. -/
def castHeldSpec : ChangeSpec := { name := "castHeld", fn := fun _ => fun
  | [d1, d2, d3] => { results := [.lit (.bool true)], args := [d1, d2, d3] }
  | _ => none }
def castHeldRow : OpenClaim := { program := "ytdcjeoamhjplmaa", sum := "d2d2a05ce919fcadc1d097765ef977c5b559bfdc1197dec183daa02203b14c1e", func := "radome/radomelaw09.CastHeld", spec := "castHeld", unfollowed := true, recurses := true, apart := false }
def CastHeldSaid : Prop := castHeldRow.holds Try.pinned (OpenSpec.ofChange castHeldSpec)

/-- ITS FALSE NEIGHBOUR: 'it returns false'. Refute it at one input. -/
def castHeldWrong : ChangeSpec := { name := "castHeld", fn := fun _ => fun
  | [d1, d2, d3] => { results := [.lit (.bool false)], args := [d1, d2, d3] }
  | _ => none }
def CastHeldWrongFalsely : Prop := castHeldRow.holds Try.pinned (OpenSpec.ofChange castHeldWrong)

/-- 'radomelaw09.CastTruth': WHATEVER THE INPUT: true; the input reads as it did. -/
def castTruthSpec : ChangeSpec := { name := "castTruth", fn := fun _ => fun
  | [d1, d2, d3] => { results := [.lit (.bool true)], args := [d1, d2, d3] }
  | _ => none }
def castTruthRow : OpenClaim := { program := "ytdcjeoamhjplmaa", sum := "d2d2a05ce919fcadc1d097765ef977c5b559bfdc1197dec183daa02203b14c1e", func := "radome/radomelaw09.CastTruth", spec := "castTruth", unfollowed := true, recurses := true, apart := false }
def CastTruthSaid : Prop := castTruthRow.holds Try.pinned (OpenSpec.ofChange castTruthSpec)

/-- ITS FALSE NEIGHBOUR: 'it returns false'. Refute it at one input. -/
def castTruthWrong : ChangeSpec := { name := "castTruth", fn := fun _ => fun
  | [d1, d2, d3] => { results := [.lit (.bool false)], args := [d1, d2, d3] }
  | _ => none }
def CastTruthWrongFalsely : Prop := castTruthRow.holds Try.pinned (OpenSpec.ofChange castTruthWrong)

/-- 'radomelaw09.CastFlows': WHATEVER THE INPUT: true; the input reads as it did. -/
def castFlowsSpec : ChangeSpec := { name := "castFlows", fn := fun _ => fun
  | [d1, d2, d3, d4, d5, d6] => { results := [.lit (.bool true)], args := [d1, d2, d3, d4, d5, d6] }
  | _ => none }
def castFlowsRow : OpenClaim := { program := "ytdcjeoamhjplmaa", sum := "d2d2a05ce919fcadc1d097765ef977c5b559bfdc1197dec183daa02203b14c1e", func := "radome/radomelaw09.CastFlows", spec := "castFlows", unfollowed := true, recurses := true, apart := false }
def CastFlowsSaid : Prop := castFlowsRow.holds Try.pinned (OpenSpec.ofChange castFlowsSpec)

/-- ITS FALSE NEIGHBOUR: 'it returns false'. Refute it at one input. -/
def castFlowsWrong : ChangeSpec := { name := "castFlows", fn := fun _ => fun
  | [d1, d2, d3, d4, d5, d6] => { results := [.lit (.bool false)], args := [d1, d2, d3, d4, d5, d6] }
  | _ => none }
def CastFlowsWrongFalsely : Prop := castFlowsRow.holds Try.pinned (OpenSpec.ofChange castFlowsWrong)

/-- 'radomelaw09.CastFits': WHATEVER THE INPUT: true; the input reads as it did. -/
def castFitsSpec : ChangeSpec := { name := "castFits", fn := fun _ => fun
  | [d1, d2, d3, d4, d5, d6] => { results := [.lit (.bool true)], args := [d1, d2, d3, d4, d5, d6] }
  | _ => none }
def castFitsRow : OpenClaim := { program := "ytdcjeoamhjplmaa", sum := "d2d2a05ce919fcadc1d097765ef977c5b559bfdc1197dec183daa02203b14c1e", func := "radome/radomelaw09.CastFits", spec := "castFits", unfollowed := true, recurses := true, apart := false }
def CastFitsSaid : Prop := castFitsRow.holds Try.pinned (OpenSpec.ofChange castFitsSpec)

/-- ITS FALSE NEIGHBOUR: 'it returns false'. Refute it at one input. -/
def castFitsWrong : ChangeSpec := { name := "castFits", fn := fun _ => fun
  | [d1, d2, d3, d4, d5, d6] => { results := [.lit (.bool false)], args := [d1, d2, d3, d4, d5, d6] }
  | _ => none }
def CastFitsWrongFalsely : Prop := castFitsRow.holds Try.pinned (OpenSpec.ofChange castFitsWrong)

/-- 'radomelaw09.CastKnown': WHATEVER THE INPUT: true; the input reads as it did. -/
def castKnownSpec : ChangeSpec := { name := "castKnown", fn := fun _ => fun
  | [] => { results := [.lit (.bool true)], args := [] }
  | _ => none }
def castKnownRow : OpenClaim := { program := "ytdcjeoamhjplmaa", sum := "d2d2a05ce919fcadc1d097765ef977c5b559bfdc1197dec183daa02203b14c1e", func := "radome/radomelaw09.CastKnown", spec := "castKnown", unfollowed := true, recurses := true, apart := false }
def CastKnownSaid : Prop := castKnownRow.holds Try.pinned (OpenSpec.ofChange castKnownSpec)

/-- ITS FALSE NEIGHBOUR: 'it returns false'. Refute it at one input. -/
def castKnownWrong : ChangeSpec := { name := "castKnown", fn := fun _ => fun
  | [] => { results := [.lit (.bool false)], args := [] }
  | _ => none }
def CastKnownWrongFalsely : Prop := castKnownRow.holds Try.pinned (OpenSpec.ofChange castKnownWrong)

/-- 'radomelaw09.CastChecks': WHATEVER THE INPUT: true; the input reads as it did. -/
def castChecksSpec : ChangeSpec := { name := "castChecks", fn := fun _ => fun
  | [d1, d2, d3] => { results := [.lit (.bool true)], args := [d1, d2, d3] }
  | _ => none }
def castChecksRow : OpenClaim := { program := "ytdcjeoamhjplmaa", sum := "d2d2a05ce919fcadc1d097765ef977c5b559bfdc1197dec183daa02203b14c1e", func := "radome/radomelaw09.CastChecks", spec := "castChecks", unfollowed := true, recurses := true, apart := false }
def CastChecksSaid : Prop := castChecksRow.holds Try.pinned (OpenSpec.ofChange castChecksSpec)

/-- ITS FALSE NEIGHBOUR: 'it returns false'. Refute it at one input. -/
def castChecksWrong : ChangeSpec := { name := "castChecks", fn := fun _ => fun
  | [d1, d2, d3] => { results := [.lit (.bool false)], args := [d1, d2, d3] }
  | _ => none }
def CastChecksWrongFalsely : Prop := castChecksRow.holds Try.pinned (OpenSpec.ofChange castChecksWrong)

/- THE SECOND FORM. 'bulk': how many values and letters a reading holds, each counted each time it is reached (what is shared counts as often as it is met; a slice's spare places count too). A statement '..UptoSaid' is the law's where the arguments, and the package variables that the reading takes, are together of bulk at most 1048576: NARROWER than '..Said'. Prove '..Said' where nothing that the law and all that it calls make is longer than what came in: it says more and counts as full. Else prove '..UptoSaid'. A law counts once. -/
mutual
def uptoBulk {H : Type} : DataW H → Nat
  | .lit (.string bytes) => bytes.length + 1
  | .lit _ => 1
  | .nil => 1
  | .ptr d => uptoBulk d + 1
  | .slice elems spare => uptoBulkAll elems + uptoBulkAll spare + 1
  | .agg parts => uptoBulkAll parts + 1
  | .iface _ d => uptoBulk d + 1
  | .map entries => uptoBulkEntries entries + 1
  | .held _ => 1
def uptoBulkAll {H : Type} : List (DataW H) → Nat
  | [] => 0
  | d :: r => uptoBulk d + uptoBulkAll r
def uptoBulkEntries {H : Type} : List (Lit × DataW H) → Nat
  | [] => 0
  | x :: r => uptoBulkEntry x + uptoBulkEntries r
def uptoBulkEntry {H : Type} : Lit × DataW H → Nat
  | (.string bytes, d) => bytes.length + uptoBulk d + 1
  | (_, d) => uptoBulk d + 1
 end
def uptoSmall : (H : Type) → List (DataW H) → Bool := fun _ ds => decide (uptoBulkAll ds ≤ 1048576)
def OpenSpec.upto (s : _root_.Go.ChangeSpec) : _root_.Go.OpenSpec := { _root_.Go.OpenSpec.ofChange s with cond := some uptoSmall }

/-- 'radomelaw09.CastStates', WHERE WHAT IT READS IS OF BULK AT MOST 1048576: true; the input reads as it did. -/
def castStatesUptoRow : OpenClaim := { program := "ytdcjeoamhjplmaa", sum := "d2d2a05ce919fcadc1d097765ef977c5b559bfdc1197dec183daa02203b14c1e", func := "radome/radomelaw09.CastStates", spec := "castStates", unfollowed := true, recurses := true, apart := false, narrowed := true }
def CastStatesUptoSaid : Prop := castStatesUptoRow.holds Try.pinned (OpenSpec.upto castStatesSpec)

/-- 'radomelaw09.CastNarrow', WHERE WHAT IT READS IS OF BULK AT MOST 1048576: true; the input reads as it did. -/
def castNarrowUptoRow : OpenClaim := { program := "ytdcjeoamhjplmaa", sum := "d2d2a05ce919fcadc1d097765ef977c5b559bfdc1197dec183daa02203b14c1e", func := "radome/radomelaw09.CastNarrow", spec := "castNarrow", unfollowed := true, recurses := true, apart := false, narrowed := true }
def CastNarrowUptoSaid : Prop := castNarrowUptoRow.holds Try.pinned (OpenSpec.upto castNarrowSpec)

/-- 'radomelaw09.CastMoved', WHERE WHAT IT READS IS OF BULK AT MOST 1048576: true; the input reads as it did. -/
def castMovedUptoRow : OpenClaim := { program := "ytdcjeoamhjplmaa", sum := "d2d2a05ce919fcadc1d097765ef977c5b559bfdc1197dec183daa02203b14c1e", func := "radome/radomelaw09.CastMoved", spec := "castMoved", unfollowed := true, recurses := true, apart := false, narrowed := true }
def CastMovedUptoSaid : Prop := castMovedUptoRow.holds Try.pinned (OpenSpec.upto castMovedSpec)

/-- 'radomelaw09.CastTimes', WHERE WHAT IT READS IS OF BULK AT MOST 1048576: true; the input reads as it did. -/
def castTimesUptoRow : OpenClaim := { program := "ytdcjeoamhjplmaa", sum := "d2d2a05ce919fcadc1d097765ef977c5b559bfdc1197dec183daa02203b14c1e", func := "radome/radomelaw09.CastTimes", spec := "castTimes", unfollowed := true, recurses := true, apart := false, narrowed := true }
def CastTimesUptoSaid : Prop := castTimesUptoRow.holds Try.pinned (OpenSpec.upto castTimesSpec)

/-- 'radomelaw09.CastWhen', WHERE WHAT IT READS IS OF BULK AT MOST 1048576: true; the input reads as it did. -/
def castWhenUptoRow : OpenClaim := { program := "ytdcjeoamhjplmaa", sum := "d2d2a05ce919fcadc1d097765ef977c5b559bfdc1197dec183daa02203b14c1e", func := "radome/radomelaw09.CastWhen", spec := "castWhen", unfollowed := true, recurses := true, apart := false, narrowed := true }
def CastWhenUptoSaid : Prop := castWhenUptoRow.holds Try.pinned (OpenSpec.upto castWhenSpec)

/-- 'radomelaw09.CastHeld', WHERE WHAT IT READS IS OF BULK AT MOST 1048576: true; the input reads as it did. -/
def castHeldUptoRow : OpenClaim := { program := "ytdcjeoamhjplmaa", sum := "d2d2a05ce919fcadc1d097765ef977c5b559bfdc1197dec183daa02203b14c1e", func := "radome/radomelaw09.CastHeld", spec := "castHeld", unfollowed := true, recurses := true, apart := false, narrowed := true }
def CastHeldUptoSaid : Prop := castHeldUptoRow.holds Try.pinned (OpenSpec.upto castHeldSpec)

/-- 'radomelaw09.CastTruth', WHERE WHAT IT READS IS OF BULK AT MOST 1048576: true; the input reads as it did. -/
def castTruthUptoRow : OpenClaim := { program := "ytdcjeoamhjplmaa", sum := "d2d2a05ce919fcadc1d097765ef977c5b559bfdc1197dec183daa02203b14c1e", func := "radome/radomelaw09.CastTruth", spec := "castTruth", unfollowed := true, recurses := true, apart := false, narrowed := true }
def CastTruthUptoSaid : Prop := castTruthUptoRow.holds Try.pinned (OpenSpec.upto castTruthSpec)

/-- 'radomelaw09.CastFlows', WHERE WHAT IT READS IS OF BULK AT MOST 1048576: true; the input reads as it did. -/
def castFlowsUptoRow : OpenClaim := { program := "ytdcjeoamhjplmaa", sum := "d2d2a05ce919fcadc1d097765ef977c5b559bfdc1197dec183daa02203b14c1e", func := "radome/radomelaw09.CastFlows", spec := "castFlows", unfollowed := true, recurses := true, apart := false, narrowed := true }
def CastFlowsUptoSaid : Prop := castFlowsUptoRow.holds Try.pinned (OpenSpec.upto castFlowsSpec)

/-- 'radomelaw09.CastFits', WHERE WHAT IT READS IS OF BULK AT MOST 1048576: true; the input reads as it did. -/
def castFitsUptoRow : OpenClaim := { program := "ytdcjeoamhjplmaa", sum := "d2d2a05ce919fcadc1d097765ef977c5b559bfdc1197dec183daa02203b14c1e", func := "radome/radomelaw09.CastFits", spec := "castFits", unfollowed := true, recurses := true, apart := false, narrowed := true }
def CastFitsUptoSaid : Prop := castFitsUptoRow.holds Try.pinned (OpenSpec.upto castFitsSpec)

/-- 'radomelaw09.CastKnown', WHERE WHAT IT READS IS OF BULK AT MOST 1048576: true; the input reads as it did. -/
def castKnownUptoRow : OpenClaim := { program := "ytdcjeoamhjplmaa", sum := "d2d2a05ce919fcadc1d097765ef977c5b559bfdc1197dec183daa02203b14c1e", func := "radome/radomelaw09.CastKnown", spec := "castKnown", unfollowed := true, recurses := true, apart := false, narrowed := true }
def CastKnownUptoSaid : Prop := castKnownUptoRow.holds Try.pinned (OpenSpec.upto castKnownSpec)

/-- 'radomelaw09.CastChecks', WHERE WHAT IT READS IS OF BULK AT MOST 1048576: true; the input reads as it did. -/
def castChecksUptoRow : OpenClaim := { program := "ytdcjeoamhjplmaa", sum := "d2d2a05ce919fcadc1d097765ef977c5b559bfdc1197dec183daa02203b14c1e", func := "radome/radomelaw09.CastChecks", spec := "castChecks", unfollowed := true, recurses := true, apart := false, narrowed := true }
def CastChecksUptoSaid : Prop := castChecksUptoRow.holds Try.pinned (OpenSpec.upto castChecksSpec)

end Rows
end Go.Proofs.Ytdcjeoamhjplmaa
