/-
  No cell of these rows narrows 'for every input' (looked for: loops, veiled, ifaces, maps, wideKeys, modest, calm, conditions, laid).
  DERIVED. THE GIVEN ROWS OF THIS SEAT. 6 by the template 'for every input the law returns true; each argument reads behind the call as it read before'; 0 by the template 'total and deterministic' (their statements: YtfmplnebdldpdaaTotals.lean).
  GIVEN WITH THE SEED: the statements are not yours to turn. If you find one false, say at which input.
  Laid BY PROGRAM, IN A SANDBOX (cutbox-rows.mjs): the forced cells as the released guide's own fill.sh prints them over the translation c94a588182ac70bb… (all of the seat's roots in one cut). By AI agents, Wed Nov 11 2026. No macro, syntax, notation, axiom, sorry.
-/
import Derived.Test.YtfmplnebdldpdaaChecked
import GoSem.Claim
import GoSem.ClaimJoined
import GoSem.ClaimMapViews
import Derived.JoinedTies
import Derived.KernelRfl
namespace Go.Proofs.Ytfmplnebdldpdaa
/- THE CELL 'sum', in the pinned program and in every row, IS THE sha256 OF THE DUMP (.gsa) THAT YtfmplnebdldpdaaProg.lean LOADS. Nothing in Lean hashes anything: it is a label: what it is worth is what the hold of that sum in a sandbox is worth. -/
noncomputable def Try.pinned : Pinned := { name := "ytfmplnebdldpdaa", sum := "c94a588182ac70bb1b31e314e3ddd534611b67acdc0d1ec6f331d324790a4aea", checked := Try.checked }
namespace Rows
def none {H : Type} : Left H := { results := [], args := [] }

/-- 'laws.FnExactDepthOf': WHATEVER THE INPUT: true; the input reads as it did. -/
def fnExactDepthOfSpec : ChangeSpec := { name := "fnExactDepthOf", fn := fun _ => fun
  | [d] => { results := [.lit (.bool true)], args := [d] }
  | _ => none }
def fnExactDepthOfRow : OpenClaim := { program := "ytfmplnebdldpdaa", sum := "c94a588182ac70bb1b31e314e3ddd534611b67acdc0d1ec6f331d324790a4aea", func := "loop.example/g03015/laws.FnExactDepthOf", spec := "fnExactDepthOf", apart := false }
def FnExactDepthOfSaid : Prop := fnExactDepthOfRow.holds Try.pinned (OpenSpec.ofChange fnExactDepthOfSpec)

/-- ITS FALSE NEIGHBOUR: 'it returns false'. Refute it at one input. -/
def fnExactDepthOfWrong : ChangeSpec := { name := "fnExactDepthOf", fn := fun _ => fun
  | [d] => { results := [.lit (.bool false)], args := [d] }
  | _ => none }
def FnExactDepthOfWrongFalsely : Prop := fnExactDepthOfRow.holds Try.pinned (OpenSpec.ofChange fnExactDepthOfWrong)

/-- 'laws.FnExactTrimProof': WHATEVER THE INPUT: true; the input reads as it did. -/
def fnExactTrimProofSpec : ChangeSpec := { name := "fnExactTrimProof", fn := fun _ => fun
  | [d1, d2] => { results := [.lit (.bool true)], args := [d1, d2] }
  | _ => none }
def fnExactTrimProofRow : OpenClaim := { program := "ytfmplnebdldpdaa", sum := "c94a588182ac70bb1b31e314e3ddd534611b67acdc0d1ec6f331d324790a4aea", func := "loop.example/g03015/laws.FnExactTrimProof", spec := "fnExactTrimProof", apart := false }
def FnExactTrimProofSaid : Prop := fnExactTrimProofRow.holds Try.pinned (OpenSpec.ofChange fnExactTrimProofSpec)

/-- ITS FALSE NEIGHBOUR: 'it returns false'. Refute it at one input. -/
def fnExactTrimProofWrong : ChangeSpec := { name := "fnExactTrimProof", fn := fun _ => fun
  | [d1, d2] => { results := [.lit (.bool false)], args := [d1, d2] }
  | _ => none }
def FnExactTrimProofWrongFalsely : Prop := fnExactTrimProofRow.holds Try.pinned (OpenSpec.ofChange fnExactTrimProofWrong)

/-- 'laws.FnExactLeastSets': WHATEVER THE INPUT: true; the input reads as it did. -/
def fnExactLeastSetsSpec : ChangeSpec := { name := "fnExactLeastSets", fn := fun _ => fun
  | [d] => { results := [.lit (.bool true)], args := [d] }
  | _ => none }
def fnExactLeastSetsRow : OpenClaim := { program := "ytfmplnebdldpdaa", sum := "c94a588182ac70bb1b31e314e3ddd534611b67acdc0d1ec6f331d324790a4aea", func := "loop.example/g03015/laws.FnExactLeastSets", spec := "fnExactLeastSets", recurses := true, apart := false }
def FnExactLeastSetsSaid : Prop := fnExactLeastSetsRow.holds Try.pinned (OpenSpec.ofChange fnExactLeastSetsSpec)

/-- ITS FALSE NEIGHBOUR: 'it returns false'. Refute it at one input. -/
def fnExactLeastSetsWrong : ChangeSpec := { name := "fnExactLeastSets", fn := fun _ => fun
  | [d] => { results := [.lit (.bool false)], args := [d] }
  | _ => none }
def FnExactLeastSetsWrongFalsely : Prop := fnExactLeastSetsRow.holds Try.pinned (OpenSpec.ofChange fnExactLeastSetsWrong)

/-- 'laws.FnUnions': WHATEVER THE INPUT: true; the input reads as it did. -/
def fnUnionsSpec : ChangeSpec := { name := "fnUnions", fn := fun _ => fun
  | [d] => { results := [.lit (.bool true)], args := [d] }
  | _ => none }
def fnUnionsRow : OpenClaim := { program := "ytfmplnebdldpdaa", sum := "c94a588182ac70bb1b31e314e3ddd534611b67acdc0d1ec6f331d324790a4aea", func := "loop.example/g03015/laws.FnUnions", spec := "fnUnions", recurses := true, apart := false }
def FnUnionsSaid : Prop := fnUnionsRow.holds Try.pinned (OpenSpec.ofChange fnUnionsSpec)

/-- ITS FALSE NEIGHBOUR: 'it returns false'. Refute it at one input. -/
def fnUnionsWrong : ChangeSpec := { name := "fnUnions", fn := fun _ => fun
  | [d] => { results := [.lit (.bool false)], args := [d] }
  | _ => none }
def FnUnionsWrongFalsely : Prop := fnUnionsRow.holds Try.pinned (OpenSpec.ofChange fnUnionsWrong)

/-- 'laws.FnExactUnionsOf': WHATEVER THE INPUT: true; the input reads as it did. -/
def fnExactUnionsOfSpec : ChangeSpec := { name := "fnExactUnionsOf", fn := fun _ => fun
  | [d1, d2] => { results := [.lit (.bool true)], args := [d1, d2] }
  | _ => none }
def fnExactUnionsOfRow : OpenClaim := { program := "ytfmplnebdldpdaa", sum := "c94a588182ac70bb1b31e314e3ddd534611b67acdc0d1ec6f331d324790a4aea", func := "loop.example/g03015/laws.FnExactUnionsOf", spec := "fnExactUnionsOf", recurses := true, apart := false }
def FnExactUnionsOfSaid : Prop := fnExactUnionsOfRow.holds Try.pinned (OpenSpec.ofChange fnExactUnionsOfSpec)

/-- ITS FALSE NEIGHBOUR: 'it returns false'. Refute it at one input. -/
def fnExactUnionsOfWrong : ChangeSpec := { name := "fnExactUnionsOf", fn := fun _ => fun
  | [d1, d2] => { results := [.lit (.bool false)], args := [d1, d2] }
  | _ => none }
def FnExactUnionsOfWrongFalsely : Prop := fnExactUnionsOfRow.holds Try.pinned (OpenSpec.ofChange fnExactUnionsOfWrong)

/-- 'laws.FnExactHittingSets': WHATEVER THE INPUT: true; the input reads as it did. -/
def fnExactHittingSetsSpec : ChangeSpec := { name := "fnExactHittingSets", fn := fun _ => fun
  | [d1, d2] => { results := [.lit (.bool true)], args := [d1, d2] }
  | _ => none }
def fnExactHittingSetsRow : OpenClaim := { program := "ytfmplnebdldpdaa", sum := "c94a588182ac70bb1b31e314e3ddd534611b67acdc0d1ec6f331d324790a4aea", func := "loop.example/g03015/laws.FnExactHittingSets", spec := "fnExactHittingSets", recurses := true, apart := false }
def FnExactHittingSetsSaid : Prop := fnExactHittingSetsRow.holds Try.pinned (OpenSpec.ofChange fnExactHittingSetsSpec)

/-- ITS FALSE NEIGHBOUR: 'it returns false'. Refute it at one input. -/
def fnExactHittingSetsWrong : ChangeSpec := { name := "fnExactHittingSets", fn := fun _ => fun
  | [d1, d2] => { results := [.lit (.bool false)], args := [d1, d2] }
  | _ => none }
def FnExactHittingSetsWrongFalsely : Prop := fnExactHittingSetsRow.holds Try.pinned (OpenSpec.ofChange fnExactHittingSetsWrong)

/- THE SECOND FORM. 'bulk': how many values and letters a reading holds, each counted each time it is reached (what is shared counts as often as it is met; a slice's spare places count too). A statement '..UptoSaid' is the law's where the arguments, and the package variables that the reading takes, are together of bulk at most 1048576: NARROWER than '..Said'. Prove '..Said' where nothing that the law and all that it calls make is longer than what came in: it says more and counts as full. Else prove '..UptoSaid'. A law counts once. -/
mutual
def uptoBulk {H : Type} : DataW H → Nat
  | .lit (.string bytes) => bytes.length + 1
  | .lit _ => 1
  | .nil => 1
  | .ptr d => uptoBulk d + 1
  | .slice elems spare => uptoBulkAll elems + uptoBulkAll spare + 1
  | .agg parts => uptoBulkAll parts + 1
  | .iface _ d => uptoBulk d + 1
  | .map entries => uptoBulkEntries entries + 1
  | .held _ => 1
def uptoBulkAll {H : Type} : List (DataW H) → Nat
  | [] => 0
  | d :: r => uptoBulk d + uptoBulkAll r
def uptoBulkEntries {H : Type} : List (Lit × DataW H) → Nat
  | [] => 0
  | x :: r => uptoBulkEntry x + uptoBulkEntries r
def uptoBulkEntry {H : Type} : Lit × DataW H → Nat
  | (.string bytes, d) => bytes.length + uptoBulk d + 1
  | (_, d) => uptoBulk d + 1
 end
def uptoSmall : (H : Type) → List (DataW H) → Bool := fun _ ds => decide (uptoBulkAll ds ≤ 1048576)
def OpenSpec.upto (s : _root_.Go.ChangeSpec) : _root_.Go.OpenSpec := { _root_.Go.OpenSpec.ofChange s with cond := some uptoSmall }

/-- 'laws.FnExactDepthOf', WHERE WHAT IT READS IS OF BULK AT MOST 1048576: true; the input reads as it did. -/
def fnExactDepthOfUptoRow : OpenClaim := { program := "ytfmplnebdldpdaa", sum := "c94a588182ac70bb1b31e314e3ddd534611b67acdc0d1ec6f331d324790a4aea", func := "loop.example/g03015/laws.FnExactDepthOf", spec := "fnExactDepthOf", apart := false, narrowed := true }
def FnExactDepthOfUptoSaid : Prop := fnExactDepthOfUptoRow.holds Try.pinned (OpenSpec.upto fnExactDepthOfSpec)

/-- 'laws.FnExactTrimProof', WHERE WHAT IT READS IS OF BULK AT MOST 1048576: true; the input reads as it did. -/
def fnExactTrimProofUptoRow : OpenClaim := { program := "ytfmplnebdldpdaa", sum := "c94a588182ac70bb1b31e314e3ddd534611b67acdc0d1ec6f331d324790a4aea", func := "loop.example/g03015/laws.FnExactTrimProof", spec := "fnExactTrimProof", apart := false, narrowed := true }
def FnExactTrimProofUptoSaid : Prop := fnExactTrimProofUptoRow.holds Try.pinned (OpenSpec.upto fnExactTrimProofSpec)

/-- 'laws.FnExactLeastSets', WHERE WHAT IT READS IS OF BULK AT MOST 1048576: true; the input reads as it did. -/
def fnExactLeastSetsUptoRow : OpenClaim := { program := "ytfmplnebdldpdaa", sum := "c94a588182ac70bb1b31e314e3ddd534611b67acdc0d1ec6f331d324790a4aea", func := "loop.example/g03015/laws.FnExactLeastSets", spec := "fnExactLeastSets", recurses := true, apart := false, narrowed := true }
def FnExactLeastSetsUptoSaid : Prop := fnExactLeastSetsUptoRow.holds Try.pinned (OpenSpec.upto fnExactLeastSetsSpec)

/-- 'laws.FnUnions', WHERE WHAT IT READS IS OF BULK AT MOST 1048576: true; the input reads as it did. -/
def fnUnionsUptoRow : OpenClaim := { program := "ytfmplnebdldpdaa", sum := "c94a588182ac70bb1b31e314e3ddd534611b67acdc0d1ec6f331d324790a4aea", func := "loop.example/g03015/laws.FnUnions", spec := "fnUnions", recurses := true, apart := false, narrowed := true }
def FnUnionsUptoSaid : Prop := fnUnionsUptoRow.holds Try.pinned (OpenSpec.upto fnUnionsSpec)

/-- 'laws.FnExactUnionsOf', WHERE WHAT IT READS IS OF BULK AT MOST 1048576: true; the input reads as it did. -/
def fnExactUnionsOfUptoRow : OpenClaim := { program := "ytfmplnebdldpdaa", sum := "c94a588182ac70bb1b31e314e3ddd534611b67acdc0d1ec6f331d324790a4aea", func := "loop.example/g03015/laws.FnExactUnionsOf", spec := "fnExactUnionsOf", recurses := true, apart := false, narrowed := true }
def FnExactUnionsOfUptoSaid : Prop := fnExactUnionsOfUptoRow.holds Try.pinned (OpenSpec.upto fnExactUnionsOfSpec)

/-- 'laws.FnExactHittingSets', WHERE WHAT IT READS IS OF BULK AT MOST 1048576: true; the input reads as it did. -/
def fnExactHittingSetsUptoRow : OpenClaim := { program := "ytfmplnebdldpdaa", sum := "c94a588182ac70bb1b31e314e3ddd534611b67acdc0d1ec6f331d324790a4aea", func := "loop.example/g03015/laws.FnExactHittingSets", spec := "fnExactHittingSets", recurses := true, apart := false, narrowed := true }
def FnExactHittingSetsUptoSaid : Prop := fnExactHittingSetsUptoRow.holds Try.pinned (OpenSpec.upto fnExactHittingSetsSpec)

end Rows
end Go.Proofs.Ytfmplnebdldpdaa
