/-
  No cell of these rows narrows 'for every input' (looked for: loops, veiled, ifaces, maps, wideKeys, modest, calm, conditions, laid).
  DERIVED. THE GIVEN ROWS OF THIS SEAT. 5 by the template 'for every input the law returns true; each argument reads behind the call as it read before'; 0 by the template 'total and deterministic' (their statements: YtpacadeldhcckaaTotals.lean).
  GIVEN WITH THE SEED: the statements are not yours to turn. If you find one false, say at which input.
  Laid BY PROGRAM, IN A SANDBOX (cutbox-rows.mjs): the forced cells as the released guide's own fill.sh prints them over the translation db3c15d2d3962272… (all of the seat's roots in one cut). By AI agents, Wed Nov 11 2026. No macro, syntax, notation, axiom, sorry.
-/
import Derived.Test.YtpacadeldhcckaaChecked
import GoSem.Claim
import GoSem.ClaimJoined
import GoSem.ClaimMapViews
import Derived.JoinedTies
import Derived.KernelRfl
namespace Go.Proofs.Ytpacadeldhcckaa
/- THE CELL 'sum', in the pinned program and in every row, IS THE sha256 OF THE DUMP (.gsa) THAT YtpacadeldhcckaaProg.lean LOADS. Nothing in Lean hashes anything: it is a label: what it is worth is what the hold of that sum in a sandbox is worth. -/
noncomputable def Try.pinned : Pinned := { name := "ytpacadeldhcckaa", sum := "db3c15d2d3962272c81ba2845581c5541c70340028af80d5d120abe27e737652", checked := Try.checked }
namespace Rows
def none {H : Type} : Left H := { results := [], args := [] }

/-- 'kinkeeplaw25.DayclockNew': WHATEVER THE INPUT: true; the input reads as it did. -/
def dayclockNewSpec : ChangeSpec := { name := "dayclockNew", fn := fun _ => fun
  | [d1, d2, d3] => { results := [.lit (.bool true)], args := [d1, d2, d3] }
  | _ => none }
def dayclockNewRow : OpenClaim := { program := "ytpacadeldhcckaa", sum := "db3c15d2d3962272c81ba2845581c5541c70340028af80d5d120abe27e737652", func := "kinkeep/kinkeeplaw25.DayclockNew", spec := "dayclockNew", unfollowed := true, recurses := true, apart := false }
def DayclockNewSaid : Prop := dayclockNewRow.holds Try.pinned (OpenSpec.ofChange dayclockNewSpec)

/-- ITS FALSE NEIGHBOUR: 'it returns false'. Refute it at one input. -/
def dayclockNewWrong : ChangeSpec := { name := "dayclockNew", fn := fun _ => fun
  | [d1, d2, d3] => { results := [.lit (.bool false)], args := [d1, d2, d3] }
  | _ => none }
def DayclockNewWrongFalsely : Prop := dayclockNewRow.holds Try.pinned (OpenSpec.ofChange dayclockNewWrong)

/-- 'kinkeeplaw25.DayclockRises': WHATEVER THE INPUT: true; the input reads as it did. -/
def dayclockRisesSpec : ChangeSpec := { name := "dayclockRises", fn := fun _ => fun
  | [d1, d2, d3, d4] => { results := [.lit (.bool true)], args := [d1, d2, d3, d4] }
  | _ => none }
def dayclockRisesRow : OpenClaim := { program := "ytpacadeldhcckaa", sum := "db3c15d2d3962272c81ba2845581c5541c70340028af80d5d120abe27e737652", func := "kinkeep/kinkeeplaw25.DayclockRises", spec := "dayclockRises", unfollowed := true, recurses := true, apart := false }
def DayclockRisesSaid : Prop := dayclockRisesRow.holds Try.pinned (OpenSpec.ofChange dayclockRisesSpec)

/-- ITS FALSE NEIGHBOUR: 'it returns false'. Refute it at one input. -/
def dayclockRisesWrong : ChangeSpec := { name := "dayclockRises", fn := fun _ => fun
  | [d1, d2, d3, d4] => { results := [.lit (.bool false)], args := [d1, d2, d3, d4] }
  | _ => none }
def DayclockRisesWrongFalsely : Prop := dayclockRisesRow.holds Try.pinned (OpenSpec.ofChange dayclockRisesWrong)

/-- 'kinkeeplaw25.DayclockBounded': WHATEVER THE INPUT: true; the input reads as it did. -/
def dayclockBoundedSpec : ChangeSpec := { name := "dayclockBounded", fn := fun _ => fun
  | [d1, d2, d3, d4, d5] => { results := [.lit (.bool true)], args := [d1, d2, d3, d4, d5] }
  | _ => none }
def dayclockBoundedRow : OpenClaim := { program := "ytpacadeldhcckaa", sum := "db3c15d2d3962272c81ba2845581c5541c70340028af80d5d120abe27e737652", func := "kinkeep/kinkeeplaw25.DayclockBounded", spec := "dayclockBounded", unfollowed := true, recurses := true, apart := false }
def DayclockBoundedSaid : Prop := dayclockBoundedRow.holds Try.pinned (OpenSpec.ofChange dayclockBoundedSpec)

/-- ITS FALSE NEIGHBOUR: 'it returns false'. Refute it at one input. -/
def dayclockBoundedWrong : ChangeSpec := { name := "dayclockBounded", fn := fun _ => fun
  | [d1, d2, d3, d4, d5] => { results := [.lit (.bool false)], args := [d1, d2, d3, d4, d5] }
  | _ => none }
def DayclockBoundedWrongFalsely : Prop := dayclockBoundedRow.holds Try.pinned (OpenSpec.ofChange dayclockBoundedWrong)

/-- 'kinkeeplaw25.DayclockHears': WHATEVER THE INPUT: true; the input reads as it did. -/
def dayclockHearsSpec : ChangeSpec := { name := "dayclockHears", fn := fun _ => fun
  | [d1, d2, d3, d4] => { results := [.lit (.bool true)], args := [d1, d2, d3, d4] }
  | _ => none }
def dayclockHearsRow : OpenClaim := { program := "ytpacadeldhcckaa", sum := "db3c15d2d3962272c81ba2845581c5541c70340028af80d5d120abe27e737652", func := "kinkeep/kinkeeplaw25.DayclockHears", spec := "dayclockHears", unfollowed := true, recurses := true, apart := false }
def DayclockHearsSaid : Prop := dayclockHearsRow.holds Try.pinned (OpenSpec.ofChange dayclockHearsSpec)

/-- ITS FALSE NEIGHBOUR: 'it returns false'. Refute it at one input. -/
def dayclockHearsWrong : ChangeSpec := { name := "dayclockHears", fn := fun _ => fun
  | [d1, d2, d3, d4] => { results := [.lit (.bool false)], args := [d1, d2, d3, d4] }
  | _ => none }
def DayclockHearsWrongFalsely : Prop := dayclockHearsRow.holds Try.pinned (OpenSpec.ofChange dayclockHearsWrong)

/-- 'kinkeeplaw25.DayclockFollows': WHATEVER THE INPUT: true; the input reads as it did. -/
def dayclockFollowsSpec : ChangeSpec := { name := "dayclockFollows", fn := fun _ => fun
  | [d1, d2, d3, d4, d5] => { results := [.lit (.bool true)], args := [d1, d2, d3, d4, d5] }
  | _ => none }
def dayclockFollowsRow : OpenClaim := { program := "ytpacadeldhcckaa", sum := "db3c15d2d3962272c81ba2845581c5541c70340028af80d5d120abe27e737652", func := "kinkeep/kinkeeplaw25.DayclockFollows", spec := "dayclockFollows", unfollowed := true, recurses := true, apart := false }
def DayclockFollowsSaid : Prop := dayclockFollowsRow.holds Try.pinned (OpenSpec.ofChange dayclockFollowsSpec)

/-- ITS FALSE NEIGHBOUR: 'it returns false'. Refute it at one input. -/
def dayclockFollowsWrong : ChangeSpec := { name := "dayclockFollows", fn := fun _ => fun
  | [d1, d2, d3, d4, d5] => { results := [.lit (.bool false)], args := [d1, d2, d3, d4, d5] }
  | _ => none }
def DayclockFollowsWrongFalsely : Prop := dayclockFollowsRow.holds Try.pinned (OpenSpec.ofChange dayclockFollowsWrong)

/- THE SECOND FORM. 'bulk': how many values and letters a reading holds, each counted each time it is reached (what is shared counts as often as it is met; a slice's spare places count too). A statement '..UptoSaid' is the law's where the arguments, and the package variables that the reading takes, are together of bulk at most 1048576: NARROWER than '..Said'. Prove '..Said' where nothing that the law and all that it calls make is longer than what came in: it says more and counts as full. Else prove '..UptoSaid'. A law counts once. -/
mutual
def uptoBulk {H : Type} : DataW H → Nat
  | .lit (.string bytes) => bytes.length + 1
  | .lit _ => 1
  | .nil => 1
  | .ptr d => uptoBulk d + 1
  | .slice elems spare => uptoBulkAll elems + uptoBulkAll spare + 1
  | .agg parts => uptoBulkAll parts + 1
  | .iface _ d => uptoBulk d + 1
  | .map entries => uptoBulkEntries entries + 1
  | .held _ => 1
def uptoBulkAll {H : Type} : List (DataW H) → Nat
  | [] => 0
  | d :: r => uptoBulk d + uptoBulkAll r
def uptoBulkEntries {H : Type} : List (Lit × DataW H) → Nat
  | [] => 0
  | x :: r => uptoBulkEntry x + uptoBulkEntries r
def uptoBulkEntry {H : Type} : Lit × DataW H → Nat
  | (.string bytes, d) => bytes.length + uptoBulk d + 1
  | (_, d) => uptoBulk d + 1
 end
def uptoSmall : (H : Type) → List (DataW H) → Bool := fun _ ds => decide (uptoBulkAll ds ≤ 1048576)
def OpenSpec.upto (s : _root_.Go.ChangeSpec) : _root_.Go.OpenSpec := { _root_.Go.OpenSpec.ofChange s with cond := some uptoSmall }

/-- 'kinkeeplaw25.DayclockNew', WHERE WHAT IT READS IS OF BULK AT MOST 1048576: true; the input reads as it did. -/
def dayclockNewUptoRow : OpenClaim := { program := "ytpacadeldhcckaa", sum := "db3c15d2d3962272c81ba2845581c5541c70340028af80d5d120abe27e737652", func := "kinkeep/kinkeeplaw25.DayclockNew", spec := "dayclockNew", unfollowed := true, recurses := true, apart := false, narrowed := true }
def DayclockNewUptoSaid : Prop := dayclockNewUptoRow.holds Try.pinned (OpenSpec.upto dayclockNewSpec)

/-- 'kinkeeplaw25.DayclockRises', WHERE WHAT IT READS IS OF BULK AT MOST 1048576: true; the input reads as it did. -/
def dayclockRisesUptoRow : OpenClaim := { program := "ytpacadeldhcckaa", sum := "db3c15d2d3962272c81ba2845581c5541c70340028af80d5d120abe27e737652", func := "kinkeep/kinkeeplaw25.DayclockRises", spec := "dayclockRises", unfollowed := true, recurses := true, apart := false, narrowed := true }
def DayclockRisesUptoSaid : Prop := dayclockRisesUptoRow.holds Try.pinned (OpenSpec.upto dayclockRisesSpec)

/-- 'kinkeeplaw25.DayclockBounded', WHERE WHAT IT READS IS OF BULK AT MOST 1048576: true; the input reads as it did. -/
def dayclockBoundedUptoRow : OpenClaim := { program := "ytpacadeldhcckaa", sum := "db3c15d2d3962272c81ba2845581c5541c70340028af80d5d120abe27e737652", func := "kinkeep/kinkeeplaw25.DayclockBounded", spec := "dayclockBounded", unfollowed := true, recurses := true, apart := false, narrowed := true }
def DayclockBoundedUptoSaid : Prop := dayclockBoundedUptoRow.holds Try.pinned (OpenSpec.upto dayclockBoundedSpec)

/-- 'kinkeeplaw25.DayclockHears', WHERE WHAT IT READS IS OF BULK AT MOST 1048576: true; the input reads as it did. -/
def dayclockHearsUptoRow : OpenClaim := { program := "ytpacadeldhcckaa", sum := "db3c15d2d3962272c81ba2845581c5541c70340028af80d5d120abe27e737652", func := "kinkeep/kinkeeplaw25.DayclockHears", spec := "dayclockHears", unfollowed := true, recurses := true, apart := false, narrowed := true }
def DayclockHearsUptoSaid : Prop := dayclockHearsUptoRow.holds Try.pinned (OpenSpec.upto dayclockHearsSpec)

/-- 'kinkeeplaw25.DayclockFollows', WHERE WHAT IT READS IS OF BULK AT MOST 1048576: true; the input reads as it did. -/
def dayclockFollowsUptoRow : OpenClaim := { program := "ytpacadeldhcckaa", sum := "db3c15d2d3962272c81ba2845581c5541c70340028af80d5d120abe27e737652", func := "kinkeep/kinkeeplaw25.DayclockFollows", spec := "dayclockFollows", unfollowed := true, recurses := true, apart := false, narrowed := true }
def DayclockFollowsUptoSaid : Prop := dayclockFollowsUptoRow.holds Try.pinned (OpenSpec.upto dayclockFollowsSpec)

end Rows
end Go.Proofs.Ytpacadeldhcckaa
