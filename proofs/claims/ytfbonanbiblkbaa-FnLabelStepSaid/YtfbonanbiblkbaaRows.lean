/-
  No cell of these rows narrows 'for every input' (looked for: loops, veiled, ifaces, maps, wideKeys, modest, calm, conditions, laid).
  DERIVED. THE GIVEN ROWS OF THIS SEAT. 7 by the template 'for every input the law returns true; each argument reads behind the call as it read before'; 0 by the template 'total and deterministic' (their statements: YtfbonanbiblkbaaTotals.lean).
  GIVEN WITH THE SEED: the statements are not yours to turn. If you find one false, say at which input.
  Laid BY PROGRAM, IN A SANDBOX (cutbox-rows.mjs): the forced cells as the released guide's own fill.sh prints them over the translation 9fdd69ee0fc9efb5… (all of the seat's roots in one cut). By AI agents, Wed Nov 11 2026. No macro, syntax, notation, axiom, sorry.
-/
import Derived.Test.YtfbonanbiblkbaaChecked
import GoSem.Claim
import GoSem.ClaimJoined
import GoSem.ClaimMapViews
import Derived.JoinedTies
import Derived.KernelRfl
namespace Go.Proofs.Ytfbonanbiblkbaa
/- THE CELL 'sum', in the pinned program and in every row, IS THE sha256 OF THE DUMP (.gsa) THAT YtfbonanbiblkbaaProg.lean LOADS. Nothing in Lean hashes anything: it is a label: what it is worth is what the hold of that sum in a sandbox is worth. -/
noncomputable def Try.pinned : Pinned := { name := "ytfbonanbiblkbaa", sum := "9fdd69ee0fc9efb5b09c17ba329a0f415ed5e17cc3aa435df18508f822ece4e4", checked := Try.checked }
namespace Rows
def none {H : Type} : Left H := { results := [], args := [] }

/-- 'laws.FnUnions': WHATEVER THE INPUT: true; the input reads as it did. -/
def fnUnionsSpec : ChangeSpec := { name := "fnUnions", fn := fun _ => fun
  | [d] => { results := [.lit (.bool true)], args := [d] }
  | _ => none }
def fnUnionsRow : OpenClaim := { program := "ytfbonanbiblkbaa", sum := "9fdd69ee0fc9efb5b09c17ba329a0f415ed5e17cc3aa435df18508f822ece4e4", func := "loop.example/g03015/laws.FnUnions", spec := "fnUnions", recurses := true, apart := false }
def FnUnionsSaid : Prop := fnUnionsRow.holds Try.pinned (OpenSpec.ofChange fnUnionsSpec)

/-- ITS FALSE NEIGHBOUR: 'it returns false'. Refute it at one input. -/
def fnUnionsWrong : ChangeSpec := { name := "fnUnions", fn := fun _ => fun
  | [d] => { results := [.lit (.bool false)], args := [d] }
  | _ => none }
def FnUnionsWrongFalsely : Prop := fnUnionsRow.holds Try.pinned (OpenSpec.ofChange fnUnionsWrong)

/-- 'laws.FnHitting': WHATEVER THE INPUT: true; the input reads as it did. -/
def fnHittingSpec : ChangeSpec := { name := "fnHitting", fn := fun _ => fun
  | [d] => { results := [.lit (.bool true)], args := [d] }
  | _ => none }
def fnHittingRow : OpenClaim := { program := "ytfbonanbiblkbaa", sum := "9fdd69ee0fc9efb5b09c17ba329a0f415ed5e17cc3aa435df18508f822ece4e4", func := "loop.example/g03015/laws.FnHitting", spec := "fnHitting", recurses := true, apart := false }
def FnHittingSaid : Prop := fnHittingRow.holds Try.pinned (OpenSpec.ofChange fnHittingSpec)

/-- ITS FALSE NEIGHBOUR: 'it returns false'. Refute it at one input. -/
def fnHittingWrong : ChangeSpec := { name := "fnHitting", fn := fun _ => fun
  | [d] => { results := [.lit (.bool false)], args := [d] }
  | _ => none }
def FnHittingWrongFalsely : Prop := fnHittingRow.holds Try.pinned (OpenSpec.ofChange fnHittingWrong)

/-- 'laws.FnNogoods': WHATEVER THE INPUT: true; the input reads as it did. -/
def fnNogoodsSpec : ChangeSpec := { name := "fnNogoods", fn := fun _ => fun
  | [d] => { results := [.lit (.bool true)], args := [d] }
  | _ => none }
def fnNogoodsRow : OpenClaim := { program := "ytfbonanbiblkbaa", sum := "9fdd69ee0fc9efb5b09c17ba329a0f415ed5e17cc3aa435df18508f822ece4e4", func := "loop.example/g03015/laws.FnNogoods", spec := "fnNogoods", unfollowed := true, recurses := true, apart := false }
def FnNogoodsSaid : Prop := fnNogoodsRow.holds Try.pinned (OpenSpec.ofChange fnNogoodsSpec)

/-- ITS FALSE NEIGHBOUR: 'it returns false'. Refute it at one input. -/
def fnNogoodsWrong : ChangeSpec := { name := "fnNogoods", fn := fun _ => fun
  | [d] => { results := [.lit (.bool false)], args := [d] }
  | _ => none }
def FnNogoodsWrongFalsely : Prop := fnNogoodsRow.holds Try.pinned (OpenSpec.ofChange fnNogoodsWrong)

/-- 'laws.FnLabels': WHATEVER THE INPUT: true; the input reads as it did. -/
def fnLabelsSpec : ChangeSpec := { name := "fnLabels", fn := fun _ => fun
  | [d] => { results := [.lit (.bool true)], args := [d] }
  | _ => none }
def fnLabelsRow : OpenClaim := { program := "ytfbonanbiblkbaa", sum := "9fdd69ee0fc9efb5b09c17ba329a0f415ed5e17cc3aa435df18508f822ece4e4", func := "loop.example/g03015/laws.FnLabels", spec := "fnLabels", unfollowed := true, recurses := true, apart := false }
def FnLabelsSaid : Prop := fnLabelsRow.holds Try.pinned (OpenSpec.ofChange fnLabelsSpec)

/-- ITS FALSE NEIGHBOUR: 'it returns false'. Refute it at one input. -/
def fnLabelsWrong : ChangeSpec := { name := "fnLabels", fn := fun _ => fun
  | [d] => { results := [.lit (.bool false)], args := [d] }
  | _ => none }
def FnLabelsWrongFalsely : Prop := fnLabelsRow.holds Try.pinned (OpenSpec.ofChange fnLabelsWrong)

/-- 'laws.FnGreatest': WHATEVER THE INPUT: true; the input reads as it did. -/
def fnGreatestSpec : ChangeSpec := { name := "fnGreatest", fn := fun _ => fun
  | [d] => { results := [.lit (.bool true)], args := [d] }
  | _ => none }
def fnGreatestRow : OpenClaim := { program := "ytfbonanbiblkbaa", sum := "9fdd69ee0fc9efb5b09c17ba329a0f415ed5e17cc3aa435df18508f822ece4e4", func := "loop.example/g03015/laws.FnGreatest", spec := "fnGreatest", unfollowed := true, recurses := true, apart := false }
def FnGreatestSaid : Prop := fnGreatestRow.holds Try.pinned (OpenSpec.ofChange fnGreatestSpec)

/-- ITS FALSE NEIGHBOUR: 'it returns false'. Refute it at one input. -/
def fnGreatestWrong : ChangeSpec := { name := "fnGreatest", fn := fun _ => fun
  | [d] => { results := [.lit (.bool false)], args := [d] }
  | _ => none }
def FnGreatestWrongFalsely : Prop := fnGreatestRow.holds Try.pinned (OpenSpec.ofChange fnGreatestWrong)

/-- 'laws.FnLabelStep': WHATEVER THE INPUT: true; the input reads as it did. -/
def fnLabelStepSpec : ChangeSpec := { name := "fnLabelStep", fn := fun _ => fun
  | [d] => { results := [.lit (.bool true)], args := [d] }
  | _ => none }
def fnLabelStepRow : OpenClaim := { program := "ytfbonanbiblkbaa", sum := "9fdd69ee0fc9efb5b09c17ba329a0f415ed5e17cc3aa435df18508f822ece4e4", func := "loop.example/g03015/laws.FnLabelStep", spec := "fnLabelStep", unfollowed := true, recurses := true, apart := false }
def FnLabelStepSaid : Prop := fnLabelStepRow.holds Try.pinned (OpenSpec.ofChange fnLabelStepSpec)

/-- ITS FALSE NEIGHBOUR: 'it returns false'. Refute it at one input. -/
def fnLabelStepWrong : ChangeSpec := { name := "fnLabelStep", fn := fun _ => fun
  | [d] => { results := [.lit (.bool false)], args := [d] }
  | _ => none }
def FnLabelStepWrongFalsely : Prop := fnLabelStepRow.holds Try.pinned (OpenSpec.ofChange fnLabelStepWrong)

/-- 'laws.FnRepairsHit': WHATEVER THE INPUT: true; the input reads as it did. -/
def fnRepairsHitSpec : ChangeSpec := { name := "fnRepairsHit", fn := fun _ => fun
  | [d] => { results := [.lit (.bool true)], args := [d] }
  | _ => none }
def fnRepairsHitRow : OpenClaim := { program := "ytfbonanbiblkbaa", sum := "9fdd69ee0fc9efb5b09c17ba329a0f415ed5e17cc3aa435df18508f822ece4e4", func := "loop.example/g03015/laws.FnRepairsHit", spec := "fnRepairsHit", inPlace := ["internal/reflectlite.ValueOf", "internal/reflectlite.Swapper", "(internal/reflectlite.Value).Len"], unfollowed := true, recurses := true, apart := false }
def FnRepairsHitSaid : Prop := fnRepairsHitRow.holds Try.pinned (OpenSpec.ofChange fnRepairsHitSpec)

/-- ITS FALSE NEIGHBOUR: 'it returns false'. Refute it at one input. -/
def fnRepairsHitWrong : ChangeSpec := { name := "fnRepairsHit", fn := fun _ => fun
  | [d] => { results := [.lit (.bool false)], args := [d] }
  | _ => none }
def FnRepairsHitWrongFalsely : Prop := fnRepairsHitRow.holds Try.pinned (OpenSpec.ofChange fnRepairsHitWrong)

/- THE SECOND FORM. 'bulk': how many values and letters a reading holds, each counted each time it is reached (what is shared counts as often as it is met; a slice's spare places count too). A statement '..UptoSaid' is the law's where the arguments, and the package variables that the reading takes, are together of bulk at most 1048576: NARROWER than '..Said'. Prove '..Said' where nothing that the law and all that it calls make is longer than what came in: it says more and counts as full. Else prove '..UptoSaid'. A law counts once. -/
mutual
def uptoBulk {H : Type} : DataW H → Nat
  | .lit (.string bytes) => bytes.length + 1
  | .lit _ => 1
  | .nil => 1
  | .ptr d => uptoBulk d + 1
  | .slice elems spare => uptoBulkAll elems + uptoBulkAll spare + 1
  | .agg parts => uptoBulkAll parts + 1
  | .iface _ d => uptoBulk d + 1
  | .map entries => uptoBulkEntries entries + 1
  | .held _ => 1
def uptoBulkAll {H : Type} : List (DataW H) → Nat
  | [] => 0
  | d :: r => uptoBulk d + uptoBulkAll r
def uptoBulkEntries {H : Type} : List (Lit × DataW H) → Nat
  | [] => 0
  | x :: r => uptoBulkEntry x + uptoBulkEntries r
def uptoBulkEntry {H : Type} : Lit × DataW H → Nat
  | (.string bytes, d) => bytes.length + uptoBulk d + 1
  | (_, d) => uptoBulk d + 1
 end
def uptoSmall : (H : Type) → List (DataW H) → Bool := fun _ ds => decide (uptoBulkAll ds ≤ 1048576)
def OpenSpec.upto (s : _root_.Go.ChangeSpec) : _root_.Go.OpenSpec := { _root_.Go.OpenSpec.ofChange s with cond := some uptoSmall }

/-- 'laws.FnUnions', WHERE WHAT IT READS IS OF BULK AT MOST 1048576: true; the input reads as it did. -/
def fnUnionsUptoRow : OpenClaim := { program := "ytfbonanbiblkbaa", sum := "9fdd69ee0fc9efb5b09c17ba329a0f415ed5e17cc3aa435df18508f822ece4e4", func := "loop.example/g03015/laws.FnUnions", spec := "fnUnions", recurses := true, apart := false, narrowed := true }
def FnUnionsUptoSaid : Prop := fnUnionsUptoRow.holds Try.pinned (OpenSpec.upto fnUnionsSpec)

/-- 'laws.FnHitting', WHERE WHAT IT READS IS OF BULK AT MOST 1048576: true; the input reads as it did. -/
def fnHittingUptoRow : OpenClaim := { program := "ytfbonanbiblkbaa", sum := "9fdd69ee0fc9efb5b09c17ba329a0f415ed5e17cc3aa435df18508f822ece4e4", func := "loop.example/g03015/laws.FnHitting", spec := "fnHitting", recurses := true, apart := false, narrowed := true }
def FnHittingUptoSaid : Prop := fnHittingUptoRow.holds Try.pinned (OpenSpec.upto fnHittingSpec)

/-- 'laws.FnNogoods', WHERE WHAT IT READS IS OF BULK AT MOST 1048576: true; the input reads as it did. -/
def fnNogoodsUptoRow : OpenClaim := { program := "ytfbonanbiblkbaa", sum := "9fdd69ee0fc9efb5b09c17ba329a0f415ed5e17cc3aa435df18508f822ece4e4", func := "loop.example/g03015/laws.FnNogoods", spec := "fnNogoods", unfollowed := true, recurses := true, apart := false, narrowed := true }
def FnNogoodsUptoSaid : Prop := fnNogoodsUptoRow.holds Try.pinned (OpenSpec.upto fnNogoodsSpec)

/-- 'laws.FnLabels', WHERE WHAT IT READS IS OF BULK AT MOST 1048576: true; the input reads as it did. -/
def fnLabelsUptoRow : OpenClaim := { program := "ytfbonanbiblkbaa", sum := "9fdd69ee0fc9efb5b09c17ba329a0f415ed5e17cc3aa435df18508f822ece4e4", func := "loop.example/g03015/laws.FnLabels", spec := "fnLabels", unfollowed := true, recurses := true, apart := false, narrowed := true }
def FnLabelsUptoSaid : Prop := fnLabelsUptoRow.holds Try.pinned (OpenSpec.upto fnLabelsSpec)

/-- 'laws.FnGreatest', WHERE WHAT IT READS IS OF BULK AT MOST 1048576: true; the input reads as it did. -/
def fnGreatestUptoRow : OpenClaim := { program := "ytfbonanbiblkbaa", sum := "9fdd69ee0fc9efb5b09c17ba329a0f415ed5e17cc3aa435df18508f822ece4e4", func := "loop.example/g03015/laws.FnGreatest", spec := "fnGreatest", unfollowed := true, recurses := true, apart := false, narrowed := true }
def FnGreatestUptoSaid : Prop := fnGreatestUptoRow.holds Try.pinned (OpenSpec.upto fnGreatestSpec)

/-- 'laws.FnLabelStep', WHERE WHAT IT READS IS OF BULK AT MOST 1048576: true; the input reads as it did. -/
def fnLabelStepUptoRow : OpenClaim := { program := "ytfbonanbiblkbaa", sum := "9fdd69ee0fc9efb5b09c17ba329a0f415ed5e17cc3aa435df18508f822ece4e4", func := "loop.example/g03015/laws.FnLabelStep", spec := "fnLabelStep", unfollowed := true, recurses := true, apart := false, narrowed := true }
def FnLabelStepUptoSaid : Prop := fnLabelStepUptoRow.holds Try.pinned (OpenSpec.upto fnLabelStepSpec)

/-- 'laws.FnRepairsHit', WHERE WHAT IT READS IS OF BULK AT MOST 1048576: true; the input reads as it did. -/
def fnRepairsHitUptoRow : OpenClaim := { program := "ytfbonanbiblkbaa", sum := "9fdd69ee0fc9efb5b09c17ba329a0f415ed5e17cc3aa435df18508f822ece4e4", func := "loop.example/g03015/laws.FnRepairsHit", spec := "fnRepairsHit", inPlace := ["internal/reflectlite.ValueOf", "internal/reflectlite.Swapper", "(internal/reflectlite.Value).Len"], unfollowed := true, recurses := true, apart := false, narrowed := true }
def FnRepairsHitUptoSaid : Prop := fnRepairsHitUptoRow.holds Try.pinned (OpenSpec.upto fnRepairsHitSpec)

end Rows
end Go.Proofs.Ytfbonanbiblkbaa
