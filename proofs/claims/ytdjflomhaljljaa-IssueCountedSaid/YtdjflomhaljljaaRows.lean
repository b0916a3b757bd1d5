/-
  No cell of these rows narrows 'for every input' (looked for: loops, veiled, ifaces, maps, wideKeys, modest, calm, conditions, laid).
  DERIVED. THE GIVEN ROWS OF THIS SEAT. 9 by the template 'for every input the law returns true; each argument reads behind the call as it read before'; 0 by the template 'total and deterministic' (their statements: YtdjflomhaljljaaTotals.lean).
  GIVEN WITH THE SEED: the statements are not yours to turn. If you find one false, say at which input.
  Laid BY PROGRAM, IN A SANDBOX (cutbox-rows.mjs): the forced cells as the released guide's own fill.sh prints them over the translation f432d44381b39c6a… (all of the seat's roots in one cut). By AI agents, Wed Nov 11 2026. No macro, syntax, notation, axiom, sorry.
-/
import Derived.Test.YtdjflomhaljljaaChecked
import GoSem.Claim
import GoSem.ClaimJoined
import GoSem.ClaimMapViews
import Derived.JoinedTies
import Derived.KernelRfl
namespace Go.Proofs.Ytdjflomhaljljaa
/- THE CELL 'sum', in the pinned program and in every row, IS THE sha256 OF THE DUMP (.gsa) THAT YtdjflomhaljljaaProg.lean LOADS. Nothing in Lean hashes anything: it is a label: what it is worth is what the hold of that sum in a sandbox is worth. -/
noncomputable def Try.pinned : Pinned := { name := "ytdjflomhaljljaa", sum := "f432d44381b39c6a03e339d5df743d642195c5ce99343d0c65ad9bec9e2e77c0", checked := Try.checked }
namespace Rows
def none {H : Type} : Left H := { results := [], args := [] }

/-- 'radomelaw13.IssueThreats': WHATEVER THE INPUT: true; the input reads as it did. -/
def issueThreatsSpec : ChangeSpec := { name := "issueThreats", fn := fun _ => fun
  | [d1, d2, d3] => { results := [.lit (.bool true)], args := [d1, d2, d3] }
  | _ => none }
def issueThreatsRow : OpenClaim := { program := "ytdjflomhaljljaa", sum := "f432d44381b39c6a03e339d5df743d642195c5ce99343d0c65ad9bec9e2e77c0", func := "radome/radomelaw13.IssueThreats", spec := "issueThreats", inPlace := ["internal/bytealg.IndexByteString", "internal/bytealg.IndexString"], unfollowed := true, recurses := true, named := ["internal/bytealg.MaxLen"], apart := false }
def IssueThreatsSaid : Prop := issueThreatsRow.holds Try.pinned (OpenSpec.ofChange issueThreatsSpec)

/-- ITS FALSE NEIGHBOUR: 'it returns false'. Refute it at one input. -/
def issueThreatsWrong : ChangeSpec := { name := "issueThreats", fn := fun _ => fun
  | [d1, d2, d3] => { results := [.lit (.bool false)], args := [d1, d2, d3] }
  | _ => none }
def IssueThreatsWrongFalsely : Prop := issueThreatsRow.holds Try.pinned (OpenSpec.ofChange issueThreatsWrong)

/-- 'radomelaw13.IssueNumbered': WHATEVER THE INPUT: true; the input reads as it did. -/
def issueNumberedSpec : ChangeSpec := { name := "issueNumbered", fn := fun _ => fun
  | [d1, d2, d3] => { results := [.lit (.bool true)], args := [d1, d2, d3] }
  | _ => none }
def issueNumberedRow : OpenClaim := { program := "ytdjflomhaljljaa", sum := "f432d44381b39c6a03e339d5df743d642195c5ce99343d0c65ad9bec9e2e77c0", func := "radome/radomelaw13.IssueNumbered", spec := "issueNumbered", inPlace := ["internal/bytealg.IndexByteString", "internal/bytealg.IndexString"], unfollowed := true, recurses := true, named := ["internal/bytealg.MaxLen"], apart := false }
def IssueNumberedSaid : Prop := issueNumberedRow.holds Try.pinned (OpenSpec.ofChange issueNumberedSpec)

/-- ITS FALSE NEIGHBOUR: 'it returns false'. Refute it at one input. -/
def issueNumberedWrong : ChangeSpec := { name := "issueNumbered", fn := fun _ => fun
  | [d1, d2, d3] => { results := [.lit (.bool false)], args := [d1, d2, d3] }
  | _ => none }
def IssueNumberedWrongFalsely : Prop := issueNumberedRow.holds Try.pinned (OpenSpec.ofChange issueNumberedWrong)

/-- 'radomelaw13.IssueGreater': WHATEVER THE INPUT: true; the input reads as it did. -/
def issueGreaterSpec : ChangeSpec := { name := "issueGreater", fn := fun _ => fun
  | [d1, d2, d3, d4, d5, d6] => { results := [.lit (.bool true)], args := [d1, d2, d3, d4, d5, d6] }
  | _ => none }
def issueGreaterRow : OpenClaim := { program := "ytdjflomhaljljaa", sum := "f432d44381b39c6a03e339d5df743d642195c5ce99343d0c65ad9bec9e2e77c0", func := "radome/radomelaw13.IssueGreater", spec := "issueGreater", inPlace := ["internal/bytealg.IndexByteString", "internal/bytealg.IndexString"], unfollowed := true, recurses := true, named := ["internal/bytealg.MaxLen"], apart := false }
def IssueGreaterSaid : Prop := issueGreaterRow.holds Try.pinned (OpenSpec.ofChange issueGreaterSpec)

/-- ITS FALSE NEIGHBOUR: 'it returns false'. Refute it at one input. -/
def issueGreaterWrong : ChangeSpec := { name := "issueGreater", fn := fun _ => fun
  | [d1, d2, d3, d4, d5, d6] => { results := [.lit (.bool false)], args := [d1, d2, d3, d4, d5, d6] }
  | _ => none }
def IssueGreaterWrongFalsely : Prop := issueGreaterRow.holds Try.pinned (OpenSpec.ofChange issueGreaterWrong)

/-- 'radomelaw13.IssueTruth': WHATEVER THE INPUT: true; the input reads as it did. -/
def issueTruthSpec : ChangeSpec := { name := "issueTruth", fn := fun _ => fun
  | [d1, d2, d3, d4, d5] => { results := [.lit (.bool true)], args := [d1, d2, d3, d4, d5] }
  | _ => none }
def issueTruthRow : OpenClaim := { program := "ytdjflomhaljljaa", sum := "f432d44381b39c6a03e339d5df743d642195c5ce99343d0c65ad9bec9e2e77c0", func := "radome/radomelaw13.IssueTruth", spec := "issueTruth", inPlace := ["internal/bytealg.IndexByteString", "internal/bytealg.IndexString"], unfollowed := true, recurses := true, named := ["internal/bytealg.MaxLen"], apart := false }
def IssueTruthSaid : Prop := issueTruthRow.holds Try.pinned (OpenSpec.ofChange issueTruthSpec)

/-- ITS FALSE NEIGHBOUR: 'it returns false'. Refute it at one input. -/
def issueTruthWrong : ChangeSpec := { name := "issueTruth", fn := fun _ => fun
  | [d1, d2, d3, d4, d5] => { results := [.lit (.bool false)], args := [d1, d2, d3, d4, d5] }
  | _ => none }
def IssueTruthWrongFalsely : Prop := issueTruthRow.holds Try.pinned (OpenSpec.ofChange issueTruthWrong)

/-- 'radomelaw13.IssueFull': WHATEVER THE INPUT: true; the input reads as it did. -/
def issueFullSpec : ChangeSpec := { name := "issueFull", fn := fun _ => fun
  | [d1, d2] => { results := [.lit (.bool true)], args := [d1, d2] }
  | _ => none }
def issueFullRow : OpenClaim := { program := "ytdjflomhaljljaa", sum := "f432d44381b39c6a03e339d5df743d642195c5ce99343d0c65ad9bec9e2e77c0", func := "radome/radomelaw13.IssueFull", spec := "issueFull", inPlace := ["internal/bytealg.IndexByteString", "internal/bytealg.IndexString"], unfollowed := true, recurses := true, named := ["internal/bytealg.MaxLen"], apart := false }
def IssueFullSaid : Prop := issueFullRow.holds Try.pinned (OpenSpec.ofChange issueFullSpec)

/-- ITS FALSE NEIGHBOUR: 'it returns false'. Refute it at one input. -/
def issueFullWrong : ChangeSpec := { name := "issueFull", fn := fun _ => fun
  | [d1, d2] => { results := [.lit (.bool false)], args := [d1, d2] }
  | _ => none }
def IssueFullWrongFalsely : Prop := issueFullRow.holds Try.pinned (OpenSpec.ofChange issueFullWrong)

/-- 'radomelaw13.IssueChecks': WHATEVER THE INPUT: true; the input reads as it did. -/
def issueChecksSpec : ChangeSpec := { name := "issueChecks", fn := fun _ => fun
  | [d] => { results := [.lit (.bool true)], args := [d] }
  | _ => none }
def issueChecksRow : OpenClaim := { program := "ytdjflomhaljljaa", sum := "f432d44381b39c6a03e339d5df743d642195c5ce99343d0c65ad9bec9e2e77c0", func := "radome/radomelaw13.IssueChecks", spec := "issueChecks", inPlace := ["internal/bytealg.IndexByteString", "internal/bytealg.IndexString"], unfollowed := true, recurses := true, named := ["internal/bytealg.MaxLen"], apart := false }
def IssueChecksSaid : Prop := issueChecksRow.holds Try.pinned (OpenSpec.ofChange issueChecksSpec)

/-- ITS FALSE NEIGHBOUR: 'it returns false'. Refute it at one input. -/
def issueChecksWrong : ChangeSpec := { name := "issueChecks", fn := fun _ => fun
  | [d] => { results := [.lit (.bool false)], args := [d] }
  | _ => none }
def IssueChecksWrongFalsely : Prop := issueChecksRow.holds Try.pinned (OpenSpec.ofChange issueChecksWrong)

/-- 'radomelaw13.IssueKnown': WHATEVER THE INPUT: true; the input reads as it did. -/
def issueKnownSpec : ChangeSpec := { name := "issueKnown", fn := fun _ => fun
  | [] => { results := [.lit (.bool true)], args := [] }
  | _ => none }
def issueKnownRow : OpenClaim := { program := "ytdjflomhaljljaa", sum := "f432d44381b39c6a03e339d5df743d642195c5ce99343d0c65ad9bec9e2e77c0", func := "radome/radomelaw13.IssueKnown", spec := "issueKnown", inPlace := ["internal/bytealg.IndexByteString", "internal/bytealg.IndexString"], unfollowed := true, recurses := true, named := ["internal/bytealg.MaxLen"], apart := false }
def IssueKnownSaid : Prop := issueKnownRow.holds Try.pinned (OpenSpec.ofChange issueKnownSpec)

/-- ITS FALSE NEIGHBOUR: 'it returns false'. Refute it at one input. -/
def issueKnownWrong : ChangeSpec := { name := "issueKnown", fn := fun _ => fun
  | [] => { results := [.lit (.bool false)], args := [] }
  | _ => none }
def IssueKnownWrongFalsely : Prop := issueKnownRow.holds Try.pinned (OpenSpec.ofChange issueKnownWrong)

/-- 'radomelaw13.IssueNil': WHATEVER THE INPUT: true; the input reads as it did. -/
def issueNilSpec : ChangeSpec := { name := "issueNil", fn := fun _ => fun
  | [d1, d2] => { results := [.lit (.bool true)], args := [d1, d2] }
  | _ => none }
def issueNilRow : OpenClaim := { program := "ytdjflomhaljljaa", sum := "f432d44381b39c6a03e339d5df743d642195c5ce99343d0c65ad9bec9e2e77c0", func := "radome/radomelaw13.IssueNil", spec := "issueNil", inPlace := ["internal/bytealg.IndexByteString", "internal/bytealg.IndexString"], unfollowed := true, recurses := true, named := ["internal/bytealg.MaxLen"], apart := false }
def IssueNilSaid : Prop := issueNilRow.holds Try.pinned (OpenSpec.ofChange issueNilSpec)

/-- ITS FALSE NEIGHBOUR: 'it returns false'. Refute it at one input. -/
def issueNilWrong : ChangeSpec := { name := "issueNil", fn := fun _ => fun
  | [d1, d2] => { results := [.lit (.bool false)], args := [d1, d2] }
  | _ => none }
def IssueNilWrongFalsely : Prop := issueNilRow.holds Try.pinned (OpenSpec.ofChange issueNilWrong)

/-- 'radomelaw13.IssueCounted': WHATEVER THE INPUT: true; the input reads as it did. -/
def issueCountedSpec : ChangeSpec := { name := "issueCounted", fn := fun _ => fun
  | [d1, d2, d3, d4] => { results := [.lit (.bool true)], args := [d1, d2, d3, d4] }
  | _ => none }
def issueCountedRow : OpenClaim := { program := "ytdjflomhaljljaa", sum := "f432d44381b39c6a03e339d5df743d642195c5ce99343d0c65ad9bec9e2e77c0", func := "radome/radomelaw13.IssueCounted", spec := "issueCounted", inPlace := ["internal/bytealg.IndexByteString", "internal/bytealg.IndexString"], unfollowed := true, recurses := true, named := ["internal/bytealg.MaxLen"], apart := false }
def IssueCountedSaid : Prop := issueCountedRow.holds Try.pinned (OpenSpec.ofChange issueCountedSpec)

/-- ITS FALSE NEIGHBOUR: 'it returns false'. Refute it at one input. -/
def issueCountedWrong : ChangeSpec := { name := "issueCounted", fn := fun _ => fun
  | [d1, d2, d3, d4] => { results := [.lit (.bool false)], args := [d1, d2, d3, d4] }
  | _ => none }
def IssueCountedWrongFalsely : Prop := issueCountedRow.holds Try.pinned (OpenSpec.ofChange issueCountedWrong)

/- THE SECOND FORM. 'bulk': how many values and letters a reading holds, each counted each time it is reached (what is shared counts as often as it is met; a slice's spare places count too). A statement '..UptoSaid' is the law's where the arguments, and the package variables that the reading takes, are together of bulk at most 1048576: NARROWER than '..Said'. Prove '..Said' where nothing that the law and all that it calls make is longer than what came in: it says more and counts as full. Else prove '..UptoSaid'. A law counts once. -/
mutual
def uptoBulk {H : Type} : DataW H → Nat
  | .lit (.string bytes) => bytes.length + 1
  | .lit _ => 1
  | .nil => 1
  | .ptr d => uptoBulk d + 1
  | .slice elems spare => uptoBulkAll elems + uptoBulkAll spare + 1
  | .agg parts => uptoBulkAll parts + 1
  | .iface _ d => uptoBulk d + 1
  | .map entries => uptoBulkEntries entries + 1
  | .held _ => 1
def uptoBulkAll {H : Type} : List (DataW H) → Nat
  | [] => 0
  | d :: r => uptoBulk d + uptoBulkAll r
def uptoBulkEntries {H : Type} : List (Lit × DataW H) → Nat
  | [] => 0
  | x :: r => uptoBulkEntry x + uptoBulkEntries r
def uptoBulkEntry {H : Type} : Lit × DataW H → Nat
  | (.string bytes, d) => bytes.length + uptoBulk d + 1
  | (_, d) => uptoBulk d + 1
 end
def uptoSmall : (H : Type) → List (DataW H) → Bool := fun _ ds => decide (uptoBulkAll ds ≤ 1048576)
def OpenSpec.upto (s : _root_.Go.ChangeSpec) : _root_.Go.OpenSpec := { _root_.Go.OpenSpec.ofChange s with cond := some uptoSmall }

/-- 'radomelaw13.IssueThreats', WHERE WHAT IT READS IS OF BULK AT MOST 1048576: true; the input reads as it did. -/
def issueThreatsUptoRow : OpenClaim := { program := "ytdjflomhaljljaa", sum := "f432d44381b39c6a03e339d5df743d642195c5ce99343d0c65ad9bec9e2e77c0", func := "radome/radomelaw13.IssueThreats", spec := "issueThreats", inPlace := ["internal/bytealg.IndexByteString", "internal/bytealg.IndexString"], unfollowed := true, recurses := true, named := ["internal/bytealg.MaxLen"], apart := false, narrowed := true }
def IssueThreatsUptoSaid : Prop := issueThreatsUptoRow.holds Try.pinned (OpenSpec.upto issueThreatsSpec)

/-- 'radomelaw13.IssueNumbered', WHERE WHAT IT READS IS OF BULK AT MOST 1048576: true; the input reads as it did. -/
def issueNumberedUptoRow : OpenClaim := { program := "ytdjflomhaljljaa", sum := "f432d44381b39c6a03e339d5df743d642195c5ce99343d0c65ad9bec9e2e77c0", func := "radome/radomelaw13.IssueNumbered", spec := "issueNumbered", inPlace := ["internal/bytealg.IndexByteString", "internal/bytealg.IndexString"], unfollowed := true, recurses := true, named := ["internal/bytealg.MaxLen"], apart := false, narrowed := true }
def IssueNumberedUptoSaid : Prop := issueNumberedUptoRow.holds Try.pinned (OpenSpec.upto issueNumberedSpec)

/-- 'radomelaw13.IssueGreater', WHERE WHAT IT READS IS OF BULK AT MOST 1048576: true; the input reads as it did. -/
def issueGreaterUptoRow : OpenClaim := { program := "ytdjflomhaljljaa", sum := "f432d44381b39c6a03e339d5df743d642195c5ce99343d0c65ad9bec9e2e77c0", func := "radome/radomelaw13.IssueGreater", spec := "issueGreater", inPlace := ["internal/bytealg.IndexByteString", "internal/bytealg.IndexString"], unfollowed := true, recurses := true, named := ["internal/bytealg.MaxLen"], apart := false, narrowed := true }
def IssueGreaterUptoSaid : Prop := issueGreaterUptoRow.holds Try.pinned (OpenSpec.upto issueGreaterSpec)

/-- 'radomelaw13.IssueTruth', WHERE WHAT IT READS IS OF BULK AT MOST 1048576: true; the input reads as it did. -/
def issueTruthUptoRow : OpenClaim := { program := "ytdjflomhaljljaa", sum := "f432d44381b39c6a03e339d5df743d642195c5ce99343d0c65ad9bec9e2e77c0", func := "radome/radomelaw13.IssueTruth", spec := "issueTruth", inPlace := ["internal/bytealg.IndexByteString", "internal/bytealg.IndexString"], unfollowed := true, recurses := true, named := ["internal/bytealg.MaxLen"], apart := false, narrowed := true }
def IssueTruthUptoSaid : Prop := issueTruthUptoRow.holds Try.pinned (OpenSpec.upto issueTruthSpec)

/-- 'radomelaw13.IssueFull', WHERE WHAT IT READS IS OF BULK AT MOST 1048576: true; the input reads as it did. -/
def issueFullUptoRow : OpenClaim := { program := "ytdjflomhaljljaa", sum := "f432d44381b39c6a03e339d5df743d642195c5ce99343d0c65ad9bec9e2e77c0", func := "radome/radomelaw13.IssueFull", spec := "issueFull", inPlace := ["internal/bytealg.IndexByteString", "internal/bytealg.IndexString"], unfollowed := true, recurses := true, named := ["internal/bytealg.MaxLen"], apart := false, narrowed := true }
def IssueFullUptoSaid : Prop := issueFullUptoRow.holds Try.pinned (OpenSpec.upto issueFullSpec)

/-- 'radomelaw13.IssueChecks', WHERE WHAT IT READS IS OF BULK AT MOST 1048576: true; the input reads as it did. -/
def issueChecksUptoRow : OpenClaim := { program := "ytdjflomhaljljaa", sum := "f432d44381b39c6a03e339d5df743d642195c5ce99343d0c65ad9bec9e2e77c0", func := "radome/radomelaw13.IssueChecks", spec := "issueChecks", inPlace := ["internal/bytealg.IndexByteString", "internal/bytealg.IndexString"], unfollowed := true, recurses := true, named := ["internal/bytealg.MaxLen"], apart := false, narrowed := true }
def IssueChecksUptoSaid : Prop := issueChecksUptoRow.holds Try.pinned (OpenSpec.upto issueChecksSpec)

/-- 'radomelaw13.IssueKnown', WHERE WHAT IT READS IS OF BULK AT MOST 1048576: true; the input reads as it did. -/
def issueKnownUptoRow : OpenClaim := { program := "ytdjflomhaljljaa", sum := "f432d44381b39c6a03e339d5df743d642195c5ce99343d0c65ad9bec9e2e77c0", func := "radome/radomelaw13.IssueKnown", spec := "issueKnown", inPlace := ["internal/bytealg.IndexByteString", "internal/bytealg.IndexString"], unfollowed := true, recurses := true, named := ["internal/bytealg.MaxLen"], apart := false, narrowed := true }
def IssueKnownUptoSaid : Prop := issueKnownUptoRow.holds Try.pinned (OpenSpec.upto issueKnownSpec)

/-- 'radomelaw13.IssueNil', WHERE WHAT IT READS IS OF BULK AT MOST 1048576: true; the input reads as it did. -/
def issueNilUptoRow : OpenClaim := { program := "ytdjflomhaljljaa", sum := "f432d44381b39c6a03e339d5df743d642195c5ce99343d0c65ad9bec9e2e77c0", func := "radome/radomelaw13.IssueNil", spec := "issueNil", inPlace := ["internal/bytealg.IndexByteString", "internal/bytealg.IndexString"], unfollowed := true, recurses := true, named := ["internal/bytealg.MaxLen"], apart := false, narrowed := true }
def IssueNilUptoSaid : Prop := issueNilUptoRow.holds Try.pinned (OpenSpec.upto issueNilSpec)

/-- 'radomelaw13.IssueCounted', WHERE WHAT IT READS IS OF BULK AT MOST 1048576: true; the input reads as it did. -/
def issueCountedUptoRow : OpenClaim := { program := "ytdjflomhaljljaa", sum := "f432d44381b39c6a03e339d5df743d642195c5ce99343d0c65ad9bec9e2e77c0", func := "radome/radomelaw13.IssueCounted", spec := "issueCounted", inPlace := ["internal/bytealg.IndexByteString", "internal/bytealg.IndexString"], unfollowed := true, recurses := true, named := ["internal/bytealg.MaxLen"], apart := false, narrowed := true }
def IssueCountedUptoSaid : Prop := issueCountedUptoRow.holds Try.pinned (OpenSpec.upto issueCountedSpec)

end Rows
end Go.Proofs.Ytdjflomhaljljaa
