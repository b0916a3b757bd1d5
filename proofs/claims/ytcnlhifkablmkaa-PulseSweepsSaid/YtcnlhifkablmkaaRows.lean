/-
  No cell of these rows narrows 'for every input' (looked for: loops, veiled, ifaces, maps, wideKeys, modest, calm, conditions, laid).
  DERIVED. THE GIVEN ROWS OF THIS SEAT. 12 by the template 'for every input the law returns true; each argument reads behind the call as it read before'; 0 by the template 'total and deterministic' (their statements: YtcnlhifkablmkaaTotals.lean).
  GIVEN WITH THE SEED: the statements are not yours to turn. If you find one false, say at which input.
  Laid BY PROGRAM, IN A SANDBOX (cutbox-rows.mjs): the forced cells as the released guide's own fill.sh prints them over the translation 8319c1e9a55c8507… (all of the seat's roots in one cut). By AI agents, Wed Nov 11 2026. No macro, syntax, notation, axiom, sorry.
-/
import Derived.Test.YtcnlhifkablmkaaChecked
import GoSem.Claim
import GoSem.ClaimJoined
import GoSem.ClaimMapViews
import Derived.JoinedTies
import Derived.KernelRfl
namespace Go.Proofs.Ytcnlhifkablmkaa
/- THE CELL 'sum', in the pinned program and in every row, IS THE sha256 OF THE DUMP (.gsa) THAT YtcnlhifkablmkaaProg.lean LOADS. Nothing in Lean hashes anything: it is a label: what it is worth is what the hold of that sum in a sandbox is worth. -/
noncomputable def Try.pinned : Pinned := { name := "ytcnlhifkablmkaa", sum := "8319c1e9a55c8507b4b67d9c42b0ea4b8cc76eb5d7ff1347b9f4b114d9cc5d49", checked := Try.checked }
namespace Rows
def none {H : Type} : Left H := { results := [], args := [] }

/-- 'radomelaw02.PulseHears': WHATEVER THE INPUT: true; the input reads as it did. -/
def pulseHearsSpec : ChangeSpec := { name := "pulseHears", fn := fun _ => fun
  | [d1, d2, d3] => { results := [.lit (.bool true)], args := [d1, d2, d3] }
  | _ => none }
def pulseHearsRow : OpenClaim := { program := "ytcnlhifkablmkaa", sum := "8319c1e9a55c8507b4b67d9c42b0ea4b8cc76eb5d7ff1347b9f4b114d9cc5d49", func := "radome/radomelaw02.PulseHears", spec := "pulseHears", unfollowed := true, recurses := true, apart := false }
def PulseHearsSaid : Prop := pulseHearsRow.holds Try.pinned (OpenSpec.ofChange pulseHearsSpec)

/-- ITS FALSE NEIGHBOUR: 'it returns false'. Refute it at one input. -/
def pulseHearsWrong : ChangeSpec := { name := "pulseHears", fn := fun _ => fun
  | [d1, d2, d3] => { results := [.lit (.bool false)], args := [d1, d2, d3] }
  | _ => none }
def PulseHearsWrongFalsely : Prop := pulseHearsRow.holds Try.pinned (OpenSpec.ofChange pulseHearsWrong)

/-- 'radomelaw02.PulseTurned': WHATEVER THE INPUT: true; the input reads as it did. -/
def pulseTurnedSpec : ChangeSpec := { name := "pulseTurned", fn := fun _ => fun
  | [d1, d2, d3, d4, d5] => { results := [.lit (.bool true)], args := [d1, d2, d3, d4, d5] }
  | _ => none }
def pulseTurnedRow : OpenClaim := { program := "ytcnlhifkablmkaa", sum := "8319c1e9a55c8507b4b67d9c42b0ea4b8cc76eb5d7ff1347b9f4b114d9cc5d49", func := "radome/radomelaw02.PulseTurned", spec := "pulseTurned", unfollowed := true, recurses := true, apart := false }
def PulseTurnedSaid : Prop := pulseTurnedRow.holds Try.pinned (OpenSpec.ofChange pulseTurnedSpec)

/-- ITS FALSE NEIGHBOUR: 'it returns false'. Refute it at one input. -/
def pulseTurnedWrong : ChangeSpec := { name := "pulseTurned", fn := fun _ => fun
  | [d1, d2, d3, d4, d5] => { results := [.lit (.bool false)], args := [d1, d2, d3, d4, d5] }
  | _ => none }
def PulseTurnedWrongFalsely : Prop := pulseTurnedRow.holds Try.pinned (OpenSpec.ofChange pulseTurnedWrong)

/-- 'radomelaw02.PulseRays': WHATEVER THE INPUT: true; the input reads as it did. -/
def pulseRaysSpec : ChangeSpec := { name := "pulseRays", fn := fun _ => fun
  | [d1, d2, d3] => { results := [.lit (.bool true)], args := [d1, d2, d3] }
  | _ => none }
def pulseRaysRow : OpenClaim := { program := "ytcnlhifkablmkaa", sum := "8319c1e9a55c8507b4b67d9c42b0ea4b8cc76eb5d7ff1347b9f4b114d9cc5d49", func := "radome/radomelaw02.PulseRays", spec := "pulseRays", unfollowed := true, recurses := true, apart := false }
def PulseRaysSaid : Prop := pulseRaysRow.holds Try.pinned (OpenSpec.ofChange pulseRaysSpec)

/-- ITS FALSE NEIGHBOUR: 'it returns false'. Refute it at one input. -/
def pulseRaysWrong : ChangeSpec := { name := "pulseRays", fn := fun _ => fun
  | [d1, d2, d3] => { results := [.lit (.bool false)], args := [d1, d2, d3] }
  | _ => none }
def PulseRaysWrongFalsely : Prop := pulseRaysRow.holds Try.pinned (OpenSpec.ofChange pulseRaysWrong)

/-- 'radomelaw02.PulseArcs': WHATEVER THE INPUT: true; the input reads as it did. -/
def pulseArcsSpec : ChangeSpec := { name := "pulseArcs", fn := fun _ => fun
  | [d] => { results := [.lit (.bool true)], args := [d] }
  | _ => none }
def pulseArcsRow : OpenClaim := { program := "ytcnlhifkablmkaa", sum := "8319c1e9a55c8507b4b67d9c42b0ea4b8cc76eb5d7ff1347b9f4b114d9cc5d49", func := "radome/radomelaw02.PulseArcs", spec := "pulseArcs", unfollowed := true, recurses := true, apart := false }
def PulseArcsSaid : Prop := pulseArcsRow.holds Try.pinned (OpenSpec.ofChange pulseArcsSpec)

/-- ITS FALSE NEIGHBOUR: 'it returns false'. Refute it at one input. -/
def pulseArcsWrong : ChangeSpec := { name := "pulseArcs", fn := fun _ => fun
  | [d] => { results := [.lit (.bool false)], args := [d] }
  | _ => none }
def PulseArcsWrongFalsely : Prop := pulseArcsRow.holds Try.pinned (OpenSpec.ofChange pulseArcsWrong)

/-- 'radomelaw02.PulseArcIs': WHATEVER THE INPUT: true; the input reads as it did. -/
def pulseArcIsSpec : ChangeSpec := { name := "pulseArcIs", fn := fun _ => fun
  | [d1, d2] => { results := [.lit (.bool true)], args := [d1, d2] }
  | _ => none }
def pulseArcIsRow : OpenClaim := { program := "ytcnlhifkablmkaa", sum := "8319c1e9a55c8507b4b67d9c42b0ea4b8cc76eb5d7ff1347b9f4b114d9cc5d49", func := "radome/radomelaw02.PulseArcIs", spec := "pulseArcIs", unfollowed := true, recurses := true, apart := false }
def PulseArcIsSaid : Prop := pulseArcIsRow.holds Try.pinned (OpenSpec.ofChange pulseArcIsSpec)

/-- ITS FALSE NEIGHBOUR: 'it returns false'. Refute it at one input. -/
def pulseArcIsWrong : ChangeSpec := { name := "pulseArcIs", fn := fun _ => fun
  | [d1, d2] => { results := [.lit (.bool false)], args := [d1, d2] }
  | _ => none }
def PulseArcIsWrongFalsely : Prop := pulseArcIsRow.holds Try.pinned (OpenSpec.ofChange pulseArcIsWrong)

/-- 'radomelaw02.PulseChecks': WHATEVER THE INPUT: true; the input reads as it did. -/
def pulseChecksSpec : ChangeSpec := { name := "pulseChecks", fn := fun _ => fun
  | [d1, d2, d3] => { results := [.lit (.bool true)], args := [d1, d2, d3] }
  | _ => none }
def pulseChecksRow : OpenClaim := { program := "ytcnlhifkablmkaa", sum := "8319c1e9a55c8507b4b67d9c42b0ea4b8cc76eb5d7ff1347b9f4b114d9cc5d49", func := "radome/radomelaw02.PulseChecks", spec := "pulseChecks", unfollowed := true, recurses := true, apart := false }
def PulseChecksSaid : Prop := pulseChecksRow.holds Try.pinned (OpenSpec.ofChange pulseChecksSpec)

/-- ITS FALSE NEIGHBOUR: 'it returns false'. Refute it at one input. -/
def pulseChecksWrong : ChangeSpec := { name := "pulseChecks", fn := fun _ => fun
  | [d1, d2, d3] => { results := [.lit (.bool false)], args := [d1, d2, d3] }
  | _ => none }
def PulseChecksWrongFalsely : Prop := pulseChecksRow.holds Try.pinned (OpenSpec.ofChange pulseChecksWrong)

/-- 'radomelaw02.PulseTruth': WHATEVER THE INPUT: true; the input reads as it did. -/
def pulseTruthSpec : ChangeSpec := { name := "pulseTruth", fn := fun _ => fun
  | [d1, d2, d3, d4, d5] => { results := [.lit (.bool true)], args := [d1, d2, d3, d4, d5] }
  | _ => none }
def pulseTruthRow : OpenClaim := { program := "ytcnlhifkablmkaa", sum := "8319c1e9a55c8507b4b67d9c42b0ea4b8cc76eb5d7ff1347b9f4b114d9cc5d49", func := "radome/radomelaw02.PulseTruth", spec := "pulseTruth", unfollowed := true, recurses := true, apart := false }
def PulseTruthSaid : Prop := pulseTruthRow.holds Try.pinned (OpenSpec.ofChange pulseTruthSpec)

/-- ITS FALSE NEIGHBOUR: 'it returns false'. Refute it at one input. -/
def pulseTruthWrong : ChangeSpec := { name := "pulseTruth", fn := fun _ => fun
  | [d1, d2, d3, d4, d5] => { results := [.lit (.bool false)], args := [d1, d2, d3, d4, d5] }
  | _ => none }
def PulseTruthWrongFalsely : Prop := pulseTruthRow.holds Try.pinned (OpenSpec.ofChange pulseTruthWrong)

/-- 'radomelaw02.PulseBetter': WHATEVER THE INPUT: true; the input reads as it did. -/
def pulseBetterSpec : ChangeSpec := { name := "pulseBetter", fn := fun _ => fun
  | [d1, d2, d3, d4] => { results := [.lit (.bool true)], args := [d1, d2, d3, d4] }
  | _ => none }
def pulseBetterRow : OpenClaim := { program := "ytcnlhifkablmkaa", sum := "8319c1e9a55c8507b4b67d9c42b0ea4b8cc76eb5d7ff1347b9f4b114d9cc5d49", func := "radome/radomelaw02.PulseBetter", spec := "pulseBetter", unfollowed := true, recurses := true, apart := false }
def PulseBetterSaid : Prop := pulseBetterRow.holds Try.pinned (OpenSpec.ofChange pulseBetterSpec)

/-- ITS FALSE NEIGHBOUR: 'it returns false'. Refute it at one input. -/
def pulseBetterWrong : ChangeSpec := { name := "pulseBetter", fn := fun _ => fun
  | [d1, d2, d3, d4] => { results := [.lit (.bool false)], args := [d1, d2, d3, d4] }
  | _ => none }
def PulseBetterWrongFalsely : Prop := pulseBetterRow.holds Try.pinned (OpenSpec.ofChange pulseBetterWrong)

/-- 'radomelaw02.PulseSpeeds': WHATEVER THE INPUT: true; the input reads as it did. -/
def pulseSpeedsSpec : ChangeSpec := { name := "pulseSpeeds", fn := fun _ => fun
  | [d1, d2, d3] => { results := [.lit (.bool true)], args := [d1, d2, d3] }
  | _ => none }
def pulseSpeedsRow : OpenClaim := { program := "ytcnlhifkablmkaa", sum := "8319c1e9a55c8507b4b67d9c42b0ea4b8cc76eb5d7ff1347b9f4b114d9cc5d49", func := "radome/radomelaw02.PulseSpeeds", spec := "pulseSpeeds", unfollowed := true, recurses := true, apart := false }
def PulseSpeedsSaid : Prop := pulseSpeedsRow.holds Try.pinned (OpenSpec.ofChange pulseSpeedsSpec)

/-- ITS FALSE NEIGHBOUR: 'it returns false'. Refute it at one input. -/
def pulseSpeedsWrong : ChangeSpec := { name := "pulseSpeeds", fn := fun _ => fun
  | [d1, d2, d3] => { results := [.lit (.bool false)], args := [d1, d2, d3] }
  | _ => none }
def PulseSpeedsWrongFalsely : Prop := pulseSpeedsRow.holds Try.pinned (OpenSpec.ofChange pulseSpeedsWrong)

/-- 'radomelaw02.PulseFolds': WHATEVER THE INPUT: true; the input reads as it did. -/
def pulseFoldsSpec : ChangeSpec := { name := "pulseFolds", fn := fun _ => fun
  | [d1, d2, d3, d4, d5, d6] => { results := [.lit (.bool true)], args := [d1, d2, d3, d4, d5, d6] }
  | _ => none }
def pulseFoldsRow : OpenClaim := { program := "ytcnlhifkablmkaa", sum := "8319c1e9a55c8507b4b67d9c42b0ea4b8cc76eb5d7ff1347b9f4b114d9cc5d49", func := "radome/radomelaw02.PulseFolds", spec := "pulseFolds", unfollowed := true, recurses := true, apart := false }
def PulseFoldsSaid : Prop := pulseFoldsRow.holds Try.pinned (OpenSpec.ofChange pulseFoldsSpec)

/-- ITS FALSE NEIGHBOUR: 'it returns false'. Refute it at one input. -/
def pulseFoldsWrong : ChangeSpec := { name := "pulseFolds", fn := fun _ => fun
  | [d1, d2, d3, d4, d5, d6] => { results := [.lit (.bool false)], args := [d1, d2, d3, d4, d5, d6] }
  | _ => none }
def PulseFoldsWrongFalsely : Prop := pulseFoldsRow.holds Try.pinned (OpenSpec.ofChange pulseFoldsWrong)

/-- 'radomelaw02.PulseKnown': WHATEVER THE INPUT: true; the input reads as it did. -/
def pulseKnownSpec : ChangeSpec := { name := "pulseKnown", fn := fun _ => fun
  | [] => { results := [.lit (.bool true)], args := [] }
  | _ => none }
def pulseKnownRow : OpenClaim := { program := "ytcnlhifkablmkaa", sum := "8319c1e9a55c8507b4b67d9c42b0ea4b8cc76eb5d7ff1347b9f4b114d9cc5d49", func := "radome/radomelaw02.PulseKnown", spec := "pulseKnown", unfollowed := true, recurses := true, apart := false }
def PulseKnownSaid : Prop := pulseKnownRow.holds Try.pinned (OpenSpec.ofChange pulseKnownSpec)

/-- ITS FALSE NEIGHBOUR: 'it returns false'. Refute it at one input. -/
def pulseKnownWrong : ChangeSpec := { name := "pulseKnown", fn := fun _ => fun
  | [] => { results := [.lit (.bool false)], args := [] }
  | _ => none }
def PulseKnownWrongFalsely : Prop := pulseKnownRow.holds Try.pinned (OpenSpec.ofChange pulseKnownWrong)

/-- 'radomelaw02.PulseSweeps': WHATEVER THE INPUT: true; the input reads as it did. -/
def pulseSweepsSpec : ChangeSpec := { name := "pulseSweeps", fn := fun _ => fun
  | [d] => { results := [.lit (.bool true)], args := [d] }
  | _ => none }
def pulseSweepsRow : OpenClaim := { program := "ytcnlhifkablmkaa", sum := "8319c1e9a55c8507b4b67d9c42b0ea4b8cc76eb5d7ff1347b9f4b114d9cc5d49", func := "radome/radomelaw02.PulseSweeps", spec := "pulseSweeps", inPlace := ["internal/bytealg.IndexByteString", "internal/bytealg.IndexString"], unfollowed := true, recurses := true, named := ["internal/bytealg.MaxLen"], apart := false }
def PulseSweepsSaid : Prop := pulseSweepsRow.holds Try.pinned (OpenSpec.ofChange pulseSweepsSpec)

/-- ITS FALSE NEIGHBOUR: 'it returns false'. Refute it at one input. -/
def pulseSweepsWrong : ChangeSpec := { name := "pulseSweeps", fn := fun _ => fun
  | [d] => { results := [.lit (.bool false)], args := [d] }
  | _ => none }
def PulseSweepsWrongFalsely : Prop := pulseSweepsRow.holds Try.pinned (OpenSpec.ofChange pulseSweepsWrong)

/- THE SECOND FORM. 'bulk': how many values and letters a reading holds, each counted each time it is reached (what is shared counts as often as it is met; a slice's spare places count too). A statement '..UptoSaid' is the law's where the arguments, and the package variables that the reading takes, are together of bulk at most 1048576: NARROWER than '..Said'. Prove '..Said' where nothing that the law and all that it calls make is longer than what came in: it says more and counts as full. Else prove '..UptoSaid'. A law counts once. -/
mutual
def uptoBulk {H : Type} : DataW H → Nat
  | .lit (.string bytes) => bytes.length + 1
  | .lit _ => 1
  | .nil => 1
  | .ptr d => uptoBulk d + 1
  | .slice elems spare => uptoBulkAll elems + uptoBulkAll spare + 1
  | .agg parts => uptoBulkAll parts + 1
  | .iface _ d => uptoBulk d + 1
  | .map entries => uptoBulkEntries entries + 1
  | .held _ => 1
def uptoBulkAll {H : Type} : List (DataW H) → Nat
  | [] => 0
  | d :: r => uptoBulk d + uptoBulkAll r
def uptoBulkEntries {H : Type} : List (Lit × DataW H) → Nat
  | [] => 0
  | x :: r => uptoBulkEntry x + uptoBulkEntries r
def uptoBulkEntry {H : Type} : Lit × DataW H → Nat
  | (.string bytes, d) => bytes.length + uptoBulk d + 1
  | (_, d) => uptoBulk d + 1
 end
def uptoSmall : (H : Type) → List (DataW H) → Bool := fun _ ds => decide (uptoBulkAll ds ≤ 1048576)
def OpenSpec.upto (s : _root_.Go.ChangeSpec) : _root_.Go.OpenSpec := { _root_.Go.OpenSpec.ofChange s with cond := some uptoSmall }

/-- 'radomelaw02.PulseHears', WHERE WHAT IT READS IS OF BULK AT MOST 1048576: true; the input reads as it did. -/
def pulseHearsUptoRow : OpenClaim := { program := "ytcnlhifkablmkaa", sum := "8319c1e9a55c8507b4b67d9c42b0ea4b8cc76eb5d7ff1347b9f4b114d9cc5d49", func := "radome/radomelaw02.PulseHears", spec := "pulseHears", unfollowed := true, recurses := true, apart := false, narrowed := true }
def PulseHearsUptoSaid : Prop := pulseHearsUptoRow.holds Try.pinned (OpenSpec.upto pulseHearsSpec)

/-- 'radomelaw02.PulseTurned', WHERE WHAT IT READS IS OF BULK AT MOST 1048576: true; the input reads as it did. -/
def pulseTurnedUptoRow : OpenClaim := { program := "ytcnlhifkablmkaa", sum := "8319c1e9a55c8507b4b67d9c42b0ea4b8cc76eb5d7ff1347b9f4b114d9cc5d49", func := "radome/radomelaw02.PulseTurned", spec := "pulseTurned", unfollowed := true, recurses := true, apart := false, narrowed := true }
def PulseTurnedUptoSaid : Prop := pulseTurnedUptoRow.holds Try.pinned (OpenSpec.upto pulseTurnedSpec)

/-- 'radomelaw02.PulseRays', WHERE WHAT IT READS IS OF BULK AT MOST 1048576: true; the input reads as it did. -/
def pulseRaysUptoRow : OpenClaim := { program := "ytcnlhifkablmkaa", sum := "8319c1e9a55c8507b4b67d9c42b0ea4b8cc76eb5d7ff1347b9f4b114d9cc5d49", func := "radome/radomelaw02.PulseRays", spec := "pulseRays", unfollowed := true, recurses := true, apart := false, narrowed := true }
def PulseRaysUptoSaid : Prop := pulseRaysUptoRow.holds Try.pinned (OpenSpec.upto pulseRaysSpec)

/-- 'radomelaw02.PulseArcs', WHERE WHAT IT READS IS OF BULK AT MOST 1048576: true; the input reads as it did. -/
def pulseArcsUptoRow : OpenClaim := { program := "ytcnlhifkablmkaa", sum := "8319c1e9a55c8507b4b67d9c42b0ea4b8cc76eb5d7ff1347b9f4b114d9cc5d49", func := "radome/radomelaw02.PulseArcs", spec := "pulseArcs", unfollowed := true, recurses := true, apart := false, narrowed := true }
def PulseArcsUptoSaid : Prop := pulseArcsUptoRow.holds Try.pinned (OpenSpec.upto pulseArcsSpec)

/-- 'radomelaw02.PulseArcIs', WHERE WHAT IT READS IS OF BULK AT MOST 1048576: true; the input reads as it did. -/
def pulseArcIsUptoRow : OpenClaim := { program := "ytcnlhifkablmkaa", sum := "8319c1e9a55c8507b4b67d9c42b0ea4b8cc76eb5d7ff1347b9f4b114d9cc5d49", func := "radome/radomelaw02.PulseArcIs", spec := "pulseArcIs", unfollowed := true, recurses := true, apart := false, narrowed := true }
def PulseArcIsUptoSaid : Prop := pulseArcIsUptoRow.holds Try.pinned (OpenSpec.upto pulseArcIsSpec)

/-- 'radomelaw02.PulseChecks', WHERE WHAT IT READS IS OF BULK AT MOST 1048576: true; the input reads as it did. -/
def pulseChecksUptoRow : OpenClaim := { program := "ytcnlhifkablmkaa", sum := "8319c1e9a55c8507b4b67d9c42b0ea4b8cc76eb5d7ff1347b9f4b114d9cc5d49", func := "radome/radomelaw02.PulseChecks", spec := "pulseChecks", unfollowed := true, recurses := true, apart := false, narrowed := true }
def PulseChecksUptoSaid : Prop := pulseChecksUptoRow.holds Try.pinned (OpenSpec.upto pulseChecksSpec)

/-- 'radomelaw02.PulseTruth', WHERE WHAT IT READS IS OF BULK AT MOST 1048576: true; the input reads as it did. -/
def pulseTruthUptoRow : OpenClaim := { program := "ytcnlhifkablmkaa", sum := "8319c1e9a55c8507b4b67d9c42b0ea4b8cc76eb5d7ff1347b9f4b114d9cc5d49", func := "radome/radomelaw02.PulseTruth", spec := "pulseTruth", unfollowed := true, recurses := true, apart := false, narrowed := true }
def PulseTruthUptoSaid : Prop := pulseTruthUptoRow.holds Try.pinned (OpenSpec.upto pulseTruthSpec)

/-- 'radomelaw02.PulseBetter', WHERE WHAT IT READS IS OF BULK AT MOST 1048576: true; the input reads as it did. -/
def pulseBetterUptoRow : OpenClaim := { program := "ytcnlhifkablmkaa", sum := "8319c1e9a55c8507b4b67d9c42b0ea4b8cc76eb5d7ff1347b9f4b114d9cc5d49", func := "radome/radomelaw02.PulseBetter", spec := "pulseBetter", unfollowed := true, recurses := true, apart := false, narrowed := true }
def PulseBetterUptoSaid : Prop := pulseBetterUptoRow.holds Try.pinned (OpenSpec.upto pulseBetterSpec)

/-- 'radomelaw02.PulseSpeeds', WHERE WHAT IT READS IS OF BULK AT MOST 1048576: true; the input reads as it did. -/
def pulseSpeedsUptoRow : OpenClaim := { program := "ytcnlhifkablmkaa", sum := "8319c1e9a55c8507b4b67d9c42b0ea4b8cc76eb5d7ff1347b9f4b114d9cc5d49", func := "radome/radomelaw02.PulseSpeeds", spec := "pulseSpeeds", unfollowed := true, recurses := true, apart := false, narrowed := true }
def PulseSpeedsUptoSaid : Prop := pulseSpeedsUptoRow.holds Try.pinned (OpenSpec.upto pulseSpeedsSpec)

/-- 'radomelaw02.PulseFolds', WHERE WHAT IT READS IS OF BULK AT MOST 1048576: true; the input reads as it did. -/
def pulseFoldsUptoRow : OpenClaim := { program := "ytcnlhifkablmkaa", sum := "8319c1e9a55c8507b4b67d9c42b0ea4b8cc76eb5d7ff1347b9f4b114d9cc5d49", func := "radome/radomelaw02.PulseFolds", spec := "pulseFolds", unfollowed := true, recurses := true, apart := false, narrowed := true }
def PulseFoldsUptoSaid : Prop := pulseFoldsUptoRow.holds Try.pinned (OpenSpec.upto pulseFoldsSpec)

/-- 'radomelaw02.PulseKnown', WHERE WHAT IT READS IS OF BULK AT MOST 1048576: true; the input reads as it did. -/
def pulseKnownUptoRow : OpenClaim := { program := "ytcnlhifkablmkaa", sum := "8319c1e9a55c8507b4b67d9c42b0ea4b8cc76eb5d7ff1347b9f4b114d9cc5d49", func := "radome/radomelaw02.PulseKnown", spec := "pulseKnown", unfollowed := true, recurses := true, apart := false, narrowed := true }
def PulseKnownUptoSaid : Prop := pulseKnownUptoRow.holds Try.pinned (OpenSpec.upto pulseKnownSpec)

/-- 'radomelaw02.PulseSweeps', WHERE WHAT IT READS IS OF BULK AT MOST 1048576: true; the input reads as it did. -/
def pulseSweepsUptoRow : OpenClaim := { program := "ytcnlhifkablmkaa", sum := "8319c1e9a55c8507b4b67d9c42b0ea4b8cc76eb5d7ff1347b9f4b114d9cc5d49", func := "radome/radomelaw02.PulseSweeps", spec := "pulseSweeps", inPlace := ["internal/bytealg.IndexByteString", "internal/bytealg.IndexString"], unfollowed := true, recurses := true, named := ["internal/bytealg.MaxLen"], apart := false, narrowed := true }
def PulseSweepsUptoSaid : Prop := pulseSweepsUptoRow.holds Try.pinned (OpenSpec.upto pulseSweepsSpec)

end Rows
end Go.Proofs.Ytcnlhifkablmkaa
