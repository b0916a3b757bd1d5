/-
  No cell of these rows narrows 'for every input' (looked for: loops, veiled, ifaces, maps, wideKeys, modest, calm, conditions, laid).
  DERIVED. THE GIVEN ROWS OF THIS SEAT. 12 by the template 'for every input the law returns true; each argument reads behind the call as it read before'; 0 by the template 'total and deterministic' (their statements: YtgemekpofpoopaaTotals.lean).
  GIVEN WITH THE SEED: the statements are not yours to turn. If you find one false, say at which input.
  Laid BY PROGRAM, IN A SANDBOX (cutbox-rows.mjs): the forced cells as the released guide's own fill.sh prints them over the translation a6fc0a8a3279a704… (all of the seat's roots in one cut). By AI agents, Wed Nov 11 2026. No macro, syntax, notation, axiom, sorry.
-/
import Derived.Test.YtgemekpofpoopaaChecked
import GoSem.Claim
import GoSem.ClaimJoined
import GoSem.ClaimMapViews
import Derived.JoinedTies
import Derived.KernelRfl
namespace Go.Proofs.Ytgemekpofpoopaa
/- THE CELL 'sum', in the pinned program and in every row, IS THE sha256 OF THE DUMP (.gsa) THAT YtgemekpofpoopaaProg.lean LOADS. Nothing in Lean hashes anything: it is a label: what it is worth is what the hold of that sum in a sandbox is worth. -/
noncomputable def Try.pinned : Pinned := { name := "ytgemekpofpoopaa", sum := "a6fc0a8a3279a704fe5a464066b7787d575ac2341ae6ed2dea325f4e0b569d03", checked := Try.checked }
namespace Rows
def none {H : Type} : Left H := { results := [], args := [] }

/-- 'radomelaw08.CellAreas': WHATEVER THE INPUT: true; the input reads as it did. -/
def cellAreasSpec : ChangeSpec := { name := "cellAreas", fn := fun _ => fun
  | [d1, d2, d3, d4] => { results := [.lit (.bool true)], args := [d1, d2, d3, d4] }
  | _ => none }
def cellAreasRow : OpenClaim := { program := "ytgemekpofpoopaa", sum := "a6fc0a8a3279a704fe5a464066b7787d575ac2341ae6ed2dea325f4e0b569d03", func := "radome/radomelaw08.CellAreas", spec := "cellAreas", unfollowed := true, recurses := true, plainKeys := false, apart := false }
def CellAreasSaid : Prop := cellAreasRow.holds Try.pinned (OpenSpec.ofChange cellAreasSpec)

/-- ITS FALSE NEIGHBOUR: 'it returns false'. Refute it at one input. -/
def cellAreasWrong : ChangeSpec := { name := "cellAreas", fn := fun _ => fun
  | [d1, d2, d3, d4] => { results := [.lit (.bool false)], args := [d1, d2, d3, d4] }
  | _ => none }
def CellAreasWrongFalsely : Prop := cellAreasRow.holds Try.pinned (OpenSpec.ofChange cellAreasWrong)

/-- 'radomelaw08.CellTrees': WHATEVER THE INPUT: true; the input reads as it did. -/
def cellTreesSpec : ChangeSpec := { name := "cellTrees", fn := fun _ => fun
  | [d1, d2] => { results := [.lit (.bool true)], args := [d1, d2] }
  | _ => none }
def cellTreesRow : OpenClaim := { program := "ytgemekpofpoopaa", sum := "a6fc0a8a3279a704fe5a464066b7787d575ac2341ae6ed2dea325f4e0b569d03", func := "radome/radomelaw08.CellTrees", spec := "cellTrees", unfollowed := true, recurses := true, plainKeys := false, apart := false }
def CellTreesSaid : Prop := cellTreesRow.holds Try.pinned (OpenSpec.ofChange cellTreesSpec)

/-- ITS FALSE NEIGHBOUR: 'it returns false'. Refute it at one input. -/
def cellTreesWrong : ChangeSpec := { name := "cellTrees", fn := fun _ => fun
  | [d1, d2] => { results := [.lit (.bool false)], args := [d1, d2] }
  | _ => none }
def CellTreesWrongFalsely : Prop := cellTreesRow.holds Try.pinned (OpenSpec.ofChange cellTreesWrong)

/-- 'radomelaw08.CellPairs': WHATEVER THE INPUT: true; the input reads as it did. -/
def cellPairsSpec : ChangeSpec := { name := "cellPairs", fn := fun _ => fun
  | [d1, d2, d3, d4, d5, d6] => { results := [.lit (.bool true)], args := [d1, d2, d3, d4, d5, d6] }
  | _ => none }
def cellPairsRow : OpenClaim := { program := "ytgemekpofpoopaa", sum := "a6fc0a8a3279a704fe5a464066b7787d575ac2341ae6ed2dea325f4e0b569d03", func := "radome/radomelaw08.CellPairs", spec := "cellPairs", unfollowed := true, recurses := true, plainKeys := false, apart := false }
def CellPairsSaid : Prop := cellPairsRow.holds Try.pinned (OpenSpec.ofChange cellPairsSpec)

/-- ITS FALSE NEIGHBOUR: 'it returns false'. Refute it at one input. -/
def cellPairsWrong : ChangeSpec := { name := "cellPairs", fn := fun _ => fun
  | [d1, d2, d3, d4, d5, d6] => { results := [.lit (.bool false)], args := [d1, d2, d3, d4, d5, d6] }
  | _ => none }
def CellPairsWrongFalsely : Prop := cellPairsRow.holds Try.pinned (OpenSpec.ofChange cellPairsWrong)

/-- 'radomelaw08.CellTruth': WHATEVER THE INPUT: true; the input reads as it did. -/
def cellTruthSpec : ChangeSpec := { name := "cellTruth", fn := fun _ => fun
  | [d1, d2, d3] => { results := [.lit (.bool true)], args := [d1, d2, d3] }
  | _ => none }
def cellTruthRow : OpenClaim := { program := "ytgemekpofpoopaa", sum := "a6fc0a8a3279a704fe5a464066b7787d575ac2341ae6ed2dea325f4e0b569d03", func := "radome/radomelaw08.CellTruth", spec := "cellTruth", unfollowed := true, recurses := true, plainKeys := false, apart := false }
def CellTruthSaid : Prop := cellTruthRow.holds Try.pinned (OpenSpec.ofChange cellTruthSpec)

/-- ITS FALSE NEIGHBOUR: 'it returns false'. Refute it at one input. -/
def cellTruthWrong : ChangeSpec := { name := "cellTruth", fn := fun _ => fun
  | [d1, d2, d3] => { results := [.lit (.bool false)], args := [d1, d2, d3] }
  | _ => none }
def CellTruthWrongFalsely : Prop := cellTruthRow.holds Try.pinned (OpenSpec.ofChange cellTruthWrong)

/-- 'radomelaw08.CellOpen': WHATEVER THE INPUT: true; the input reads as it did. -/
def cellOpenSpec : ChangeSpec := { name := "cellOpen", fn := fun _ => fun
  | [d1, d2, d3, d4] => { results := [.lit (.bool true)], args := [d1, d2, d3, d4] }
  | _ => none }
def cellOpenRow : OpenClaim := { program := "ytgemekpofpoopaa", sum := "a6fc0a8a3279a704fe5a464066b7787d575ac2341ae6ed2dea325f4e0b569d03", func := "radome/radomelaw08.CellOpen", spec := "cellOpen", unfollowed := true, recurses := true, plainKeys := false, apart := false }
def CellOpenSaid : Prop := cellOpenRow.holds Try.pinned (OpenSpec.ofChange cellOpenSpec)

/-- ITS FALSE NEIGHBOUR: 'it returns false'. Refute it at one input. -/
def cellOpenWrong : ChangeSpec := { name := "cellOpen", fn := fun _ => fun
  | [d1, d2, d3, d4] => { results := [.lit (.bool false)], args := [d1, d2, d3, d4] }
  | _ => none }
def CellOpenWrongFalsely : Prop := cellOpenRow.holds Try.pinned (OpenSpec.ofChange cellOpenWrong)

/-- 'radomelaw08.CellFewer': WHATEVER THE INPUT: true; the input reads as it did. -/
def cellFewerSpec : ChangeSpec := { name := "cellFewer", fn := fun _ => fun
  | [d1, d2, d3, d4, d5] => { results := [.lit (.bool true)], args := [d1, d2, d3, d4, d5] }
  | _ => none }
def cellFewerRow : OpenClaim := { program := "ytgemekpofpoopaa", sum := "a6fc0a8a3279a704fe5a464066b7787d575ac2341ae6ed2dea325f4e0b569d03", func := "radome/radomelaw08.CellFewer", spec := "cellFewer", unfollowed := true, recurses := true, plainKeys := false, apart := false }
def CellFewerSaid : Prop := cellFewerRow.holds Try.pinned (OpenSpec.ofChange cellFewerSpec)

/-- ITS FALSE NEIGHBOUR: 'it returns false'. Refute it at one input. -/
def cellFewerWrong : ChangeSpec := { name := "cellFewer", fn := fun _ => fun
  | [d1, d2, d3, d4, d5] => { results := [.lit (.bool false)], args := [d1, d2, d3, d4, d5] }
  | _ => none }
def CellFewerWrongFalsely : Prop := cellFewerRow.holds Try.pinned (OpenSpec.ofChange cellFewerWrong)

/-- 'radomelaw08.CellNested': WHATEVER THE INPUT: true; the input reads as it did. -/
def cellNestedSpec : ChangeSpec := { name := "cellNested", fn := fun _ => fun
  | [d1, d2] => { results := [.lit (.bool true)], args := [d1, d2] }
  | _ => none }
def cellNestedRow : OpenClaim := { program := "ytgemekpofpoopaa", sum := "a6fc0a8a3279a704fe5a464066b7787d575ac2341ae6ed2dea325f4e0b569d03", func := "radome/radomelaw08.CellNested", spec := "cellNested", unfollowed := true, recurses := true, plainKeys := false, apart := false }
def CellNestedSaid : Prop := cellNestedRow.holds Try.pinned (OpenSpec.ofChange cellNestedSpec)

/-- ITS FALSE NEIGHBOUR: 'it returns false'. Refute it at one input. -/
def cellNestedWrong : ChangeSpec := { name := "cellNested", fn := fun _ => fun
  | [d1, d2] => { results := [.lit (.bool false)], args := [d1, d2] }
  | _ => none }
def CellNestedWrongFalsely : Prop := cellNestedRow.holds Try.pinned (OpenSpec.ofChange cellNestedWrong)

/-- 'radomelaw08.CellBack': WHATEVER THE INPUT: true; the input reads as it did. -/
def cellBackSpec : ChangeSpec := { name := "cellBack", fn := fun _ => fun
  | [d1, d2, d3, d4, d5, d6] => { results := [.lit (.bool true)], args := [d1, d2, d3, d4, d5, d6] }
  | _ => none }
def cellBackRow : OpenClaim := { program := "ytgemekpofpoopaa", sum := "a6fc0a8a3279a704fe5a464066b7787d575ac2341ae6ed2dea325f4e0b569d03", func := "radome/radomelaw08.CellBack", spec := "cellBack", unfollowed := true, recurses := true, plainKeys := false, apart := false }
def CellBackSaid : Prop := cellBackRow.holds Try.pinned (OpenSpec.ofChange cellBackSpec)

/-- ITS FALSE NEIGHBOUR: 'it returns false'. Refute it at one input. -/
def cellBackWrong : ChangeSpec := { name := "cellBack", fn := fun _ => fun
  | [d1, d2, d3, d4, d5, d6] => { results := [.lit (.bool false)], args := [d1, d2, d3, d4, d5, d6] }
  | _ => none }
def CellBackWrongFalsely : Prop := cellBackRow.holds Try.pinned (OpenSpec.ofChange cellBackWrong)

/-- 'radomelaw08.CellHulls': WHATEVER THE INPUT: true; the input reads as it did. -/
def cellHullsSpec : ChangeSpec := { name := "cellHulls", fn := fun _ => fun
  | [d] => { results := [.lit (.bool true)], args := [d] }
  | _ => none }
def cellHullsRow : OpenClaim := { program := "ytgemekpofpoopaa", sum := "a6fc0a8a3279a704fe5a464066b7787d575ac2341ae6ed2dea325f4e0b569d03", func := "radome/radomelaw08.CellHulls", spec := "cellHulls", unfollowed := true, recurses := true, plainKeys := false, apart := false }
def CellHullsSaid : Prop := cellHullsRow.holds Try.pinned (OpenSpec.ofChange cellHullsSpec)

/-- ITS FALSE NEIGHBOUR: 'it returns false'. Refute it at one input. -/
def cellHullsWrong : ChangeSpec := { name := "cellHulls", fn := fun _ => fun
  | [d] => { results := [.lit (.bool false)], args := [d] }
  | _ => none }
def CellHullsWrongFalsely : Prop := cellHullsRow.holds Try.pinned (OpenSpec.ofChange cellHullsWrong)

/-- 'radomelaw08.CellDrift': WHATEVER THE INPUT: true; the input reads as it did. -/
def cellDriftSpec : ChangeSpec := { name := "cellDrift", fn := fun _ => fun
  | [d1, d2, d3, d4, d5, d6, d7, d8, d9] => { results := [.lit (.bool true)], args := [d1, d2, d3, d4, d5, d6, d7, d8, d9] }
  | _ => none }
def cellDriftRow : OpenClaim := { program := "ytgemekpofpoopaa", sum := "a6fc0a8a3279a704fe5a464066b7787d575ac2341ae6ed2dea325f4e0b569d03", func := "radome/radomelaw08.CellDrift", spec := "cellDrift", unfollowed := true, recurses := true, plainKeys := false, apart := false }
def CellDriftSaid : Prop := cellDriftRow.holds Try.pinned (OpenSpec.ofChange cellDriftSpec)

/-- ITS FALSE NEIGHBOUR: 'it returns false'. Refute it at one input. -/
def cellDriftWrong : ChangeSpec := { name := "cellDrift", fn := fun _ => fun
  | [d1, d2, d3, d4, d5, d6, d7, d8, d9] => { results := [.lit (.bool false)], args := [d1, d2, d3, d4, d5, d6, d7, d8, d9] }
  | _ => none }
def CellDriftWrongFalsely : Prop := cellDriftRow.holds Try.pinned (OpenSpec.ofChange cellDriftWrong)

/-- 'radomelaw08.CellHistories': WHATEVER THE INPUT: true; the input reads as it did. -/
def cellHistoriesSpec : ChangeSpec := { name := "cellHistories", fn := fun _ => fun
  | [d1, d2, d3, d4, d5, d6] => { results := [.lit (.bool true)], args := [d1, d2, d3, d4, d5, d6] }
  | _ => none }
def cellHistoriesRow : OpenClaim := { program := "ytgemekpofpoopaa", sum := "a6fc0a8a3279a704fe5a464066b7787d575ac2341ae6ed2dea325f4e0b569d03", func := "radome/radomelaw08.CellHistories", spec := "cellHistories", unfollowed := true, recurses := true, plainKeys := false, apart := false }
def CellHistoriesSaid : Prop := cellHistoriesRow.holds Try.pinned (OpenSpec.ofChange cellHistoriesSpec)

/-- ITS FALSE NEIGHBOUR: 'it returns false'. Refute it at one input. -/
def cellHistoriesWrong : ChangeSpec := { name := "cellHistories", fn := fun _ => fun
  | [d1, d2, d3, d4, d5, d6] => { results := [.lit (.bool false)], args := [d1, d2, d3, d4, d5, d6] }
  | _ => none }
def CellHistoriesWrongFalsely : Prop := cellHistoriesRow.holds Try.pinned (OpenSpec.ofChange cellHistoriesWrong)

/-- 'radomelaw08.CellNil': WHATEVER THE INPUT: true; the input reads as it did. -/
def cellNilSpec : ChangeSpec := { name := "cellNil", fn := fun _ => fun
  | [d1, d2, d3, d4] => { results := [.lit (.bool true)], args := [d1, d2, d3, d4] }
  | _ => none }
def cellNilRow : OpenClaim := { program := "ytgemekpofpoopaa", sum := "a6fc0a8a3279a704fe5a464066b7787d575ac2341ae6ed2dea325f4e0b569d03", func := "radome/radomelaw08.CellNil", spec := "cellNil", inPlace := ["maps.clone"], unfollowed := true, recurses := true, plainKeys := false, apart := false }
def CellNilSaid : Prop := cellNilRow.holds Try.pinned (OpenSpec.ofChange cellNilSpec)

/-- ITS FALSE NEIGHBOUR: 'it returns false'. Refute it at one input. -/
def cellNilWrong : ChangeSpec := { name := "cellNil", fn := fun _ => fun
  | [d1, d2, d3, d4] => { results := [.lit (.bool false)], args := [d1, d2, d3, d4] }
  | _ => none }
def CellNilWrongFalsely : Prop := cellNilRow.holds Try.pinned (OpenSpec.ofChange cellNilWrong)

/- THE SECOND FORM. 'bulk': how many values and letters a reading holds, each counted each time it is reached (what is shared counts as often as it is met; a slice's spare places count too). A statement '..UptoSaid' is the law's where the arguments, and the package variables that the reading takes, are together of bulk at most 1048576: NARROWER than '..Said'. Prove '..Said' where nothing that the law and all that it calls make is longer than what came in: it says more and counts as full. Else prove '..UptoSaid'. A law counts once. -/
mutual
def uptoBulk {H : Type} : DataW H → Nat
  | .lit (.string bytes) => bytes.length + 1
  | .lit _ => 1
  | .nil => 1
  | .ptr d => uptoBulk d + 1
  | .slice elems spare => uptoBulkAll elems + uptoBulkAll spare + 1
  | .agg parts => uptoBulkAll parts + 1
  | .iface _ d => uptoBulk d + 1
  | .map entries => uptoBulkEntries entries + 1
  | .held _ => 1
def uptoBulkAll {H : Type} : List (DataW H) → Nat
  | [] => 0
  | d :: r => uptoBulk d + uptoBulkAll r
def uptoBulkEntries {H : Type} : List (Lit × DataW H) → Nat
  | [] => 0
  | x :: r => uptoBulkEntry x + uptoBulkEntries r
def uptoBulkEntry {H : Type} : Lit × DataW H → Nat
  | (.string bytes, d) => bytes.length + uptoBulk d + 1
  | (_, d) => uptoBulk d + 1
 end
def uptoSmall : (H : Type) → List (DataW H) → Bool := fun _ ds => decide (uptoBulkAll ds ≤ 1048576)
def OpenSpec.upto (s : _root_.Go.ChangeSpec) : _root_.Go.OpenSpec := { _root_.Go.OpenSpec.ofChange s with cond := some uptoSmall }

/-- 'radomelaw08.CellAreas', WHERE WHAT IT READS IS OF BULK AT MOST 1048576: true; the input reads as it did. -/
def cellAreasUptoRow : OpenClaim := { program := "ytgemekpofpoopaa", sum := "a6fc0a8a3279a704fe5a464066b7787d575ac2341ae6ed2dea325f4e0b569d03", func := "radome/radomelaw08.CellAreas", spec := "cellAreas", unfollowed := true, recurses := true, plainKeys := false, apart := false, narrowed := true }
def CellAreasUptoSaid : Prop := cellAreasUptoRow.holds Try.pinned (OpenSpec.upto cellAreasSpec)

/-- 'radomelaw08.CellTrees', WHERE WHAT IT READS IS OF BULK AT MOST 1048576: true; the input reads as it did. -/
def cellTreesUptoRow : OpenClaim := { program := "ytgemekpofpoopaa", sum := "a6fc0a8a3279a704fe5a464066b7787d575ac2341ae6ed2dea325f4e0b569d03", func := "radome/radomelaw08.CellTrees", spec := "cellTrees", unfollowed := true, recurses := true, plainKeys := false, apart := false, narrowed := true }
def CellTreesUptoSaid : Prop := cellTreesUptoRow.holds Try.pinned (OpenSpec.upto cellTreesSpec)

/-- 'radomelaw08.CellPairs', WHERE WHAT IT READS IS OF BULK AT MOST 1048576: true; the input reads as it did. -/
def cellPairsUptoRow : OpenClaim := { program := "ytgemekpofpoopaa", sum := "a6fc0a8a3279a704fe5a464066b7787d575ac2341ae6ed2dea325f4e0b569d03", func := "radome/radomelaw08.CellPairs", spec := "cellPairs", unfollowed := true, recurses := true, plainKeys := false, apart := false, narrowed := true }
def CellPairsUptoSaid : Prop := cellPairsUptoRow.holds Try.pinned (OpenSpec.upto cellPairsSpec)

/-- 'radomelaw08.CellTruth', WHERE WHAT IT READS IS OF BULK AT MOST 1048576: true; the input reads as it did. -/
def cellTruthUptoRow : OpenClaim := { program := "ytgemekpofpoopaa", sum := "a6fc0a8a3279a704fe5a464066b7787d575ac2341ae6ed2dea325f4e0b569d03", func := "radome/radomelaw08.CellTruth", spec := "cellTruth", unfollowed := true, recurses := true, plainKeys := false, apart := false, narrowed := true }
def CellTruthUptoSaid : Prop := cellTruthUptoRow.holds Try.pinned (OpenSpec.upto cellTruthSpec)

/-- 'radomelaw08.CellOpen', WHERE WHAT IT READS IS OF BULK AT MOST 1048576: true; the input reads as it did. -/
def cellOpenUptoRow : OpenClaim := { program := "ytgemekpofpoopaa", sum := "a6fc0a8a3279a704fe5a464066b7787d575ac2341ae6ed2dea325f4e0b569d03", func := "radome/radomelaw08.CellOpen", spec := "cellOpen", unfollowed := true, recurses := true, plainKeys := false, apart := false, narrowed := true }
def CellOpenUptoSaid : Prop := cellOpenUptoRow.holds Try.pinned (OpenSpec.upto cellOpenSpec)

/-- 'radomelaw08.CellFewer', WHERE WHAT IT READS IS OF BULK AT MOST 1048576: true; the input reads as it did. -/
def cellFewerUptoRow : OpenClaim := { program := "ytgemekpofpoopaa", sum := "a6fc0a8a3279a704fe5a464066b7787d575ac2341ae6ed2dea325f4e0b569d03", func := "radome/radomelaw08.CellFewer", spec := "cellFewer", unfollowed := true, recurses := true, plainKeys := false, apart := false, narrowed := true }
def CellFewerUptoSaid : Prop := cellFewerUptoRow.holds Try.pinned (OpenSpec.upto cellFewerSpec)

/-- 'radomelaw08.CellNested', WHERE WHAT IT READS IS OF BULK AT MOST 1048576: true; the input reads as it did. -/
def cellNestedUptoRow : OpenClaim := { program := "ytgemekpofpoopaa", sum := "a6fc0a8a3279a704fe5a464066b7787d575ac2341ae6ed2dea325f4e0b569d03", func := "radome/radomelaw08.CellNested", spec := "cellNested", unfollowed := true, recurses := true, plainKeys := false, apart := false, narrowed := true }
def CellNestedUptoSaid : Prop := cellNestedUptoRow.holds Try.pinned (OpenSpec.upto cellNestedSpec)

/-- 'radomelaw08.CellBack', WHERE WHAT IT READS IS OF BULK AT MOST 1048576: true; the input reads as it did. -/
def cellBackUptoRow : OpenClaim := { program := "ytgemekpofpoopaa", sum := "a6fc0a8a3279a704fe5a464066b7787d575ac2341ae6ed2dea325f4e0b569d03", func := "radome/radomelaw08.CellBack", spec := "cellBack", unfollowed := true, recurses := true, plainKeys := false, apart := false, narrowed := true }
def CellBackUptoSaid : Prop := cellBackUptoRow.holds Try.pinned (OpenSpec.upto cellBackSpec)

/-- 'radomelaw08.CellHulls', WHERE WHAT IT READS IS OF BULK AT MOST 1048576: true; the input reads as it did. -/
def cellHullsUptoRow : OpenClaim := { program := "ytgemekpofpoopaa", sum := "a6fc0a8a3279a704fe5a464066b7787d575ac2341ae6ed2dea325f4e0b569d03", func := "radome/radomelaw08.CellHulls", spec := "cellHulls", unfollowed := true, recurses := true, plainKeys := false, apart := false, narrowed := true }
def CellHullsUptoSaid : Prop := cellHullsUptoRow.holds Try.pinned (OpenSpec.upto cellHullsSpec)

/-- 'radomelaw08.CellDrift', WHERE WHAT IT READS IS OF BULK AT MOST 1048576: true; the input reads as it did. -/
def cellDriftUptoRow : OpenClaim := { program := "ytgemekpofpoopaa", sum := "a6fc0a8a3279a704fe5a464066b7787d575ac2341ae6ed2dea325f4e0b569d03", func := "radome/radomelaw08.CellDrift", spec := "cellDrift", unfollowed := true, recurses := true, plainKeys := false, apart := false, narrowed := true }
def CellDriftUptoSaid : Prop := cellDriftUptoRow.holds Try.pinned (OpenSpec.upto cellDriftSpec)

/-- 'radomelaw08.CellHistories', WHERE WHAT IT READS IS OF BULK AT MOST 1048576: true; the input reads as it did. -/
def cellHistoriesUptoRow : OpenClaim := { program := "ytgemekpofpoopaa", sum := "a6fc0a8a3279a704fe5a464066b7787d575ac2341ae6ed2dea325f4e0b569d03", func := "radome/radomelaw08.CellHistories", spec := "cellHistories", unfollowed := true, recurses := true, plainKeys := false, apart := false, narrowed := true }
def CellHistoriesUptoSaid : Prop := cellHistoriesUptoRow.holds Try.pinned (OpenSpec.upto cellHistoriesSpec)

/-- 'radomelaw08.CellNil', WHERE WHAT IT READS IS OF BULK AT MOST 1048576: true; the input reads as it did. -/
def cellNilUptoRow : OpenClaim := { program := "ytgemekpofpoopaa", sum := "a6fc0a8a3279a704fe5a464066b7787d575ac2341ae6ed2dea325f4e0b569d03", func := "radome/radomelaw08.CellNil", spec := "cellNil", inPlace := ["maps.clone"], unfollowed := true, recurses := true, plainKeys := false, apart := false, narrowed := true }
def CellNilUptoSaid : Prop := cellNilUptoRow.holds Try.pinned (OpenSpec.upto cellNilSpec)

end Rows
end Go.Proofs.Ytgemekpofpoopaa
