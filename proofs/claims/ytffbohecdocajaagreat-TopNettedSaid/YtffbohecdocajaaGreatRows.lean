/-
  No cell of these rows narrows 'for every input' (looked for: loops, veiled, ifaces, maps, wideKeys, modest, calm, conditions, laid).
  DERIVED. THE GIVEN ROWS OF THIS SEAT. 4 by the template 'for every input the law returns true; each argument reads behind the call as it read before'; 0 by the template 'total and deterministic' (their statements: YtffbohecdocajaaGreatTotals.lean).
  GIVEN WITH THE SEED: the statements are not yours to turn. If you find one false, say at which input.
  Laid BY PROGRAM, IN A SANDBOX (cutbox-rows.mjs): the forced cells as the released guide's own fill.sh prints them over the translation 99eeff89e66ded73… (all of the seat's roots in one cut). By AI agents, Wed Nov 11 2026. No macro, syntax, notation, axiom, sorry.
-/
import Derived.Test.YtffbohecdocajaaGreatChecked
import GoSem.Claim
import GoSem.ClaimJoined
import GoSem.ClaimMapViews
import Derived.JoinedTies
import Derived.KernelRfl
namespace Go.Proofs.YtffbohecdocajaaGreat
/- THE CELL 'sum', in the pinned program and in every row, IS THE sha256 OF THE DUMP (.gsa) THAT YtffbohecdocajaaGreatProg.lean LOADS. Nothing in Lean hashes anything: it is a label: what it is worth is what the hold of that sum in a sandbox is worth. -/
noncomputable def Tryz.pinned : Pinned := { name := "ytffbohecdocajaagreat", sum := "99eeff89e66ded731755f3ac9261682c10c38a3c2835e5fd92073ca98b154bff", checked := Tryz.checked }
namespace Rows
def none {H : Type} : Left H := { results := [], args := [] }

/-- 'radometop.TopRained': WHATEVER THE INPUT: true; the input reads as it did. -/
def topRainedSpec : ChangeSpec := { name := "topRained", fn := fun _ => fun
  | [d] => { results := [.lit (.bool true)], args := [d] }
  | _ => none }
def topRainedRow : OpenClaim := { program := "ytffbohecdocajaagreat", sum := "99eeff89e66ded731755f3ac9261682c10c38a3c2835e5fd92073ca98b154bff", func := "radome/radometop.TopRained", spec := "topRained", inPlace := ["internal/bytealg.IndexByteString", "internal/bytealg.IndexString"], unfollowed := true, recurses := true, named := ["internal/bytealg.MaxLen"], plainKeys := false, apart := false }
def TopRainedSaid : Prop := topRainedRow.holds Tryz.pinned (OpenSpec.ofChange topRainedSpec)

/-- ITS FALSE NEIGHBOUR: 'it returns false'. Refute it at one input. -/
def topRainedWrong : ChangeSpec := { name := "topRained", fn := fun _ => fun
  | [d] => { results := [.lit (.bool false)], args := [d] }
  | _ => none }
def TopRainedWrongFalsely : Prop := topRainedRow.holds Tryz.pinned (OpenSpec.ofChange topRainedWrong)

/-- 'radometop.TopUnfolded': WHATEVER THE INPUT: true; the input reads as it did. -/
def topUnfoldedSpec : ChangeSpec := { name := "topUnfolded", fn := fun _ => fun
  | [d] => { results := [.lit (.bool true)], args := [d] }
  | _ => none }
def topUnfoldedRow : OpenClaim := { program := "ytffbohecdocajaagreat", sum := "99eeff89e66ded731755f3ac9261682c10c38a3c2835e5fd92073ca98b154bff", func := "radome/radometop.TopUnfolded", spec := "topUnfolded", inPlace := ["internal/bytealg.IndexByteString", "internal/bytealg.IndexString"], unfollowed := true, recurses := true, named := ["internal/bytealg.MaxLen"], plainKeys := false, apart := false }
def TopUnfoldedSaid : Prop := topUnfoldedRow.holds Tryz.pinned (OpenSpec.ofChange topUnfoldedSpec)

/-- ITS FALSE NEIGHBOUR: 'it returns false'. Refute it at one input. -/
def topUnfoldedWrong : ChangeSpec := { name := "topUnfolded", fn := fun _ => fun
  | [d] => { results := [.lit (.bool false)], args := [d] }
  | _ => none }
def TopUnfoldedWrongFalsely : Prop := topUnfoldedRow.holds Tryz.pinned (OpenSpec.ofChange topUnfoldedWrong)

/-- 'radometop.TopIssued': WHATEVER THE INPUT: true; the input reads as it did. -/
def topIssuedSpec : ChangeSpec := { name := "topIssued", fn := fun _ => fun
  | [d] => { results := [.lit (.bool true)], args := [d] }
  | _ => none }
def topIssuedRow : OpenClaim := { program := "ytffbohecdocajaagreat", sum := "99eeff89e66ded731755f3ac9261682c10c38a3c2835e5fd92073ca98b154bff", func := "radome/radometop.TopIssued", spec := "topIssued", inPlace := ["internal/bytealg.IndexByteString", "internal/bytealg.IndexString"], unfollowed := true, recurses := true, named := ["internal/bytealg.MaxLen"], plainKeys := false, apart := false }
def TopIssuedSaid : Prop := topIssuedRow.holds Tryz.pinned (OpenSpec.ofChange topIssuedSpec)

/-- ITS FALSE NEIGHBOUR: 'it returns false'. Refute it at one input. -/
def topIssuedWrong : ChangeSpec := { name := "topIssued", fn := fun _ => fun
  | [d] => { results := [.lit (.bool false)], args := [d] }
  | _ => none }
def TopIssuedWrongFalsely : Prop := topIssuedRow.holds Tryz.pinned (OpenSpec.ofChange topIssuedWrong)

/-- 'radometop.TopNetted': WHATEVER THE INPUT: true; the input reads as it did. -/
def topNettedSpec : ChangeSpec := { name := "topNetted", fn := fun _ => fun
  | [d] => { results := [.lit (.bool true)], args := [d] }
  | _ => none }
def topNettedRow : OpenClaim := { program := "ytffbohecdocajaagreat", sum := "99eeff89e66ded731755f3ac9261682c10c38a3c2835e5fd92073ca98b154bff", func := "radome/radometop.TopNetted", spec := "topNetted", inPlace := ["internal/bytealg.IndexByteString", "internal/bytealg.IndexString", "slices.overlaps[[]radome/api.Span]", "maps.clone"], unfollowed := true, recurses := true, named := ["internal/bytealg.MaxLen"], plainKeys := false, apart := false }
def TopNettedSaid : Prop := topNettedRow.holds Tryz.pinned (OpenSpec.ofChange topNettedSpec)

/-- ITS FALSE NEIGHBOUR: 'it returns false'. Refute it at one input. -/
def topNettedWrong : ChangeSpec := { name := "topNetted", fn := fun _ => fun
  | [d] => { results := [.lit (.bool false)], args := [d] }
  | _ => none }
def TopNettedWrongFalsely : Prop := topNettedRow.holds Tryz.pinned (OpenSpec.ofChange topNettedWrong)

/- THE SECOND FORM. 'bulk': how many values and letters a reading holds, each counted each time it is reached (what is shared counts as often as it is met; a slice's spare places count too). A statement '..UptoSaid' is the law's where the arguments, and the package variables that the reading takes, are together of bulk at most 1048576: NARROWER than '..Said'. Prove '..Said' where nothing that the law and all that it calls make is longer than what came in: it says more and counts as full. Else prove '..UptoSaid'. A law counts once. -/
mutual
def uptoBulk {H : Type} : DataW H → Nat
  | .lit (.string bytes) => bytes.length + 1
  | .lit _ => 1
  | .nil => 1
  | .ptr d => uptoBulk d + 1
  | .slice elems spare => uptoBulkAll elems + uptoBulkAll spare + 1
  | .agg parts => uptoBulkAll parts + 1
  | .iface _ d => uptoBulk d + 1
  | .map entries => uptoBulkEntries entries + 1
  | .held _ => 1
def uptoBulkAll {H : Type} : List (DataW H) → Nat
  | [] => 0
  | d :: r => uptoBulk d + uptoBulkAll r
def uptoBulkEntries {H : Type} : List (Lit × DataW H) → Nat
  | [] => 0
  | x :: r => uptoBulkEntry x + uptoBulkEntries r
def uptoBulkEntry {H : Type} : Lit × DataW H → Nat
  | (.string bytes, d) => bytes.length + uptoBulk d + 1
  | (_, d) => uptoBulk d + 1
 end
def uptoSmall : (H : Type) → List (DataW H) → Bool := fun _ ds => decide (uptoBulkAll ds ≤ 1048576)
def OpenSpec.upto (s : _root_.Go.ChangeSpec) : _root_.Go.OpenSpec := { _root_.Go.OpenSpec.ofChange s with cond := some uptoSmall }

/-- 'radometop.TopRained', WHERE WHAT IT READS IS OF BULK AT MOST 1048576: true; the input reads as it did. -/
def topRainedUptoRow : OpenClaim := { program := "ytffbohecdocajaagreat", sum := "99eeff89e66ded731755f3ac9261682c10c38a3c2835e5fd92073ca98b154bff", func := "radome/radometop.TopRained", spec := "topRained", inPlace := ["internal/bytealg.IndexByteString", "internal/bytealg.IndexString"], unfollowed := true, recurses := true, named := ["internal/bytealg.MaxLen"], plainKeys := false, apart := false, narrowed := true }
def TopRainedUptoSaid : Prop := topRainedUptoRow.holds Tryz.pinned (OpenSpec.upto topRainedSpec)

/-- 'radometop.TopUnfolded', WHERE WHAT IT READS IS OF BULK AT MOST 1048576: true; the input reads as it did. -/
def topUnfoldedUptoRow : OpenClaim := { program := "ytffbohecdocajaagreat", sum := "99eeff89e66ded731755f3ac9261682c10c38a3c2835e5fd92073ca98b154bff", func := "radome/radometop.TopUnfolded", spec := "topUnfolded", inPlace := ["internal/bytealg.IndexByteString", "internal/bytealg.IndexString"], unfollowed := true, recurses := true, named := ["internal/bytealg.MaxLen"], plainKeys := false, apart := false, narrowed := true }
def TopUnfoldedUptoSaid : Prop := topUnfoldedUptoRow.holds Tryz.pinned (OpenSpec.upto topUnfoldedSpec)

/-- 'radometop.TopIssued', WHERE WHAT IT READS IS OF BULK AT MOST 1048576: true; the input reads as it did. -/
def topIssuedUptoRow : OpenClaim := { program := "ytffbohecdocajaagreat", sum := "99eeff89e66ded731755f3ac9261682c10c38a3c2835e5fd92073ca98b154bff", func := "radome/radometop.TopIssued", spec := "topIssued", inPlace := ["internal/bytealg.IndexByteString", "internal/bytealg.IndexString"], unfollowed := true, recurses := true, named := ["internal/bytealg.MaxLen"], plainKeys := false, apart := false, narrowed := true }
def TopIssuedUptoSaid : Prop := topIssuedUptoRow.holds Tryz.pinned (OpenSpec.upto topIssuedSpec)

/-- 'radometop.TopNetted', WHERE WHAT IT READS IS OF BULK AT MOST 1048576: true; the input reads as it did. -/
def topNettedUptoRow : OpenClaim := { program := "ytffbohecdocajaagreat", sum := "99eeff89e66ded731755f3ac9261682c10c38a3c2835e5fd92073ca98b154bff", func := "radome/radometop.TopNetted", spec := "topNetted", inPlace := ["internal/bytealg.IndexByteString", "internal/bytealg.IndexString", "slices.overlaps[[]radome/api.Span]", "maps.clone"], unfollowed := true, recurses := true, named := ["internal/bytealg.MaxLen"], plainKeys := false, apart := false, narrowed := true }
def TopNettedUptoSaid : Prop := topNettedUptoRow.holds Tryz.pinned (OpenSpec.upto topNettedSpec)

end Rows
end Go.Proofs.YtffbohecdocajaaGreat
