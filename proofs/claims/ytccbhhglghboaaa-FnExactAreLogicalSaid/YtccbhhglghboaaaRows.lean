/-
  No cell of these rows narrows 'for every input' (looked for: loops, veiled, ifaces, maps, wideKeys, modest, calm, conditions, laid).
  DERIVED. THE GIVEN ROWS OF THIS SEAT. 8 by the template 'for every input the law returns true; each argument reads behind the call as it read before'; 0 by the template 'total and deterministic' (their statements: YtccbhhglghboaaaTotals.lean).
  GIVEN WITH THE SEED: the statements are not yours to turn. If you find one false, say at which input.
  Laid BY PROGRAM, IN A SANDBOX (cutbox-rows.mjs): the forced cells as the released guide's own fill.sh prints them over the translation b095561ebbfcd455… (all of the seat's roots in one cut). By AI agents, Wed Nov 11 2026. No macro, syntax, notation, axiom, sorry.
-/
import Derived.Test.YtccbhhglghboaaaChecked
import GoSem.Claim
import GoSem.ClaimJoined
import GoSem.ClaimMapViews
import Derived.JoinedTies
import Derived.KernelRfl
namespace Go.Proofs.Ytccbhhglghboaaa
/- THE CELL 'sum', in the pinned program and in every row, IS THE sha256 OF THE DUMP (.gsa) THAT YtccbhhglghboaaaProg.lean LOADS. Nothing in Lean hashes anything: it is a label: what it is worth is what the hold of that sum in a sandbox is worth. -/
noncomputable def Try.pinned : Pinned := { name := "ytccbhhglghboaaa", sum := "b095561ebbfcd455809d3b94e5ce4036cd7f1bdc3b0a0fff45d5f8fb3e3dc8d3", checked := Try.checked }
namespace Rows
def none {H : Type} : Left H := { results := [], args := [] }

/-- 'laws.FnExactRulesIn': WHATEVER THE INPUT: true; the input reads as it did. -/
def fnExactRulesInSpec : ChangeSpec := { name := "fnExactRulesIn", fn := fun _ => fun
  | [d] => { results := [.lit (.bool true)], args := [d] }
  | _ => none }
def fnExactRulesInRow : OpenClaim := { program := "ytccbhhglghboaaa", sum := "b095561ebbfcd455809d3b94e5ce4036cd7f1bdc3b0a0fff45d5f8fb3e3dc8d3", func := "loop.example/g03015/laws.FnExactRulesIn", spec := "fnExactRulesIn", recurses := true, apart := false }
def FnExactRulesInSaid : Prop := fnExactRulesInRow.holds Try.pinned (OpenSpec.ofChange fnExactRulesInSpec)

/-- ITS FALSE NEIGHBOUR: 'it returns false'. Refute it at one input. -/
def fnExactRulesInWrong : ChangeSpec := { name := "fnExactRulesIn", fn := fun _ => fun
  | [d] => { results := [.lit (.bool false)], args := [d] }
  | _ => none }
def FnExactRulesInWrongFalsely : Prop := fnExactRulesInRow.holds Try.pinned (OpenSpec.ofChange fnExactRulesInWrong)

/-- 'laws.FnExactRelDepends': WHATEVER THE INPUT: true; the input reads as it did. -/
def fnExactRelDependsSpec : ChangeSpec := { name := "fnExactRelDepends", fn := fun _ => fun
  | [d1, d2, d3] => { results := [.lit (.bool true)], args := [d1, d2, d3] }
  | _ => none }
def fnExactRelDependsRow : OpenClaim := { program := "ytccbhhglghboaaa", sum := "b095561ebbfcd455809d3b94e5ce4036cd7f1bdc3b0a0fff45d5f8fb3e3dc8d3", func := "loop.example/g03015/laws.FnExactRelDepends", spec := "fnExactRelDepends", recurses := true, apart := false }
def FnExactRelDependsSaid : Prop := fnExactRelDependsRow.holds Try.pinned (OpenSpec.ofChange fnExactRelDependsSpec)

/-- ITS FALSE NEIGHBOUR: 'it returns false'. Refute it at one input. -/
def fnExactRelDependsWrong : ChangeSpec := { name := "fnExactRelDepends", fn := fun _ => fun
  | [d1, d2, d3] => { results := [.lit (.bool false)], args := [d1, d2, d3] }
  | _ => none }
def FnExactRelDependsWrongFalsely : Prop := fnExactRelDependsRow.holds Try.pinned (OpenSpec.ofChange fnExactRelDependsWrong)

/-- 'laws.FnExactNogoodsOf': WHATEVER THE INPUT: true; the input reads as it did. -/
def fnExactNogoodsOfSpec : ChangeSpec := { name := "fnExactNogoodsOf", fn := fun _ => fun
  | [d] => { results := [.lit (.bool true)], args := [d] }
  | _ => none }
def fnExactNogoodsOfRow : OpenClaim := { program := "ytccbhhglghboaaa", sum := "b095561ebbfcd455809d3b94e5ce4036cd7f1bdc3b0a0fff45d5f8fb3e3dc8d3", func := "loop.example/g03015/laws.FnExactNogoodsOf", spec := "fnExactNogoodsOf", unfollowed := true, recurses := true, apart := false }
def FnExactNogoodsOfSaid : Prop := fnExactNogoodsOfRow.holds Try.pinned (OpenSpec.ofChange fnExactNogoodsOfSpec)

/-- ITS FALSE NEIGHBOUR: 'it returns false'. Refute it at one input. -/
def fnExactNogoodsOfWrong : ChangeSpec := { name := "fnExactNogoodsOf", fn := fun _ => fun
  | [d] => { results := [.lit (.bool false)], args := [d] }
  | _ => none }
def FnExactNogoodsOfWrongFalsely : Prop := fnExactNogoodsOfRow.holds Try.pinned (OpenSpec.ofChange fnExactNogoodsOfWrong)

/-- 'laws.FnExactIsQuestion': WHATEVER THE INPUT: true; the input reads as it did. -/
def fnExactIsQuestionSpec : ChangeSpec := { name := "fnExactIsQuestion", fn := fun _ => fun
  | [d] => { results := [.lit (.bool true)], args := [d] }
  | _ => none }
def fnExactIsQuestionRow : OpenClaim := { program := "ytccbhhglghboaaa", sum := "b095561ebbfcd455809d3b94e5ce4036cd7f1bdc3b0a0fff45d5f8fb3e3dc8d3", func := "loop.example/g03015/laws.FnExactIsQuestion", spec := "fnExactIsQuestion", recurses := true, apart := false }
def FnExactIsQuestionSaid : Prop := fnExactIsQuestionRow.holds Try.pinned (OpenSpec.ofChange fnExactIsQuestionSpec)

/-- ITS FALSE NEIGHBOUR: 'it returns false'. Refute it at one input. -/
def fnExactIsQuestionWrong : ChangeSpec := { name := "fnExactIsQuestion", fn := fun _ => fun
  | [d] => { results := [.lit (.bool false)], args := [d] }
  | _ => none }
def FnExactIsQuestionWrongFalsely : Prop := fnExactIsQuestionRow.holds Try.pinned (OpenSpec.ofChange fnExactIsQuestionWrong)

/-- 'laws.FnExactLabelFor': WHATEVER THE INPUT: true; the input reads as it did. -/
def fnExactLabelForSpec : ChangeSpec := { name := "fnExactLabelFor", fn := fun _ => fun
  | [d1, d2] => { results := [.lit (.bool true)], args := [d1, d2] }
  | _ => none }
def fnExactLabelForRow : OpenClaim := { program := "ytccbhhglghboaaa", sum := "b095561ebbfcd455809d3b94e5ce4036cd7f1bdc3b0a0fff45d5f8fb3e3dc8d3", func := "loop.example/g03015/laws.FnExactLabelFor", spec := "fnExactLabelFor", unfollowed := true, recurses := true, apart := false }
def FnExactLabelForSaid : Prop := fnExactLabelForRow.holds Try.pinned (OpenSpec.ofChange fnExactLabelForSpec)

/-- ITS FALSE NEIGHBOUR: 'it returns false'. Refute it at one input. -/
def fnExactLabelForWrong : ChangeSpec := { name := "fnExactLabelFor", fn := fun _ => fun
  | [d1, d2] => { results := [.lit (.bool false)], args := [d1, d2] }
  | _ => none }
def FnExactLabelForWrongFalsely : Prop := fnExactLabelForRow.holds Try.pinned (OpenSpec.ofChange fnExactLabelForWrong)

/-- 'laws.FnExactIsLogical': WHATEVER THE INPUT: true; the input reads as it did. -/
def fnExactIsLogicalSpec : ChangeSpec := { name := "fnExactIsLogical", fn := fun _ => fun
  | [d] => { results := [.lit (.bool true)], args := [d] }
  | _ => none }
def fnExactIsLogicalRow : OpenClaim := { program := "ytccbhhglghboaaa", sum := "b095561ebbfcd455809d3b94e5ce4036cd7f1bdc3b0a0fff45d5f8fb3e3dc8d3", func := "loop.example/g03015/laws.FnExactIsLogical", spec := "fnExactIsLogical", recurses := true, apart := false }
def FnExactIsLogicalSaid : Prop := fnExactIsLogicalRow.holds Try.pinned (OpenSpec.ofChange fnExactIsLogicalSpec)

/-- ITS FALSE NEIGHBOUR: 'it returns false'. Refute it at one input. -/
def fnExactIsLogicalWrong : ChangeSpec := { name := "fnExactIsLogical", fn := fun _ => fun
  | [d] => { results := [.lit (.bool false)], args := [d] }
  | _ => none }
def FnExactIsLogicalWrongFalsely : Prop := fnExactIsLogicalRow.holds Try.pinned (OpenSpec.ofChange fnExactIsLogicalWrong)

/-- 'laws.FnExactRelevantRules': WHATEVER THE INPUT: true; the input reads as it did. -/
def fnExactRelevantRulesSpec : ChangeSpec := { name := "fnExactRelevantRules", fn := fun _ => fun
  | [d1, d2] => { results := [.lit (.bool true)], args := [d1, d2] }
  | _ => none }
def fnExactRelevantRulesRow : OpenClaim := { program := "ytccbhhglghboaaa", sum := "b095561ebbfcd455809d3b94e5ce4036cd7f1bdc3b0a0fff45d5f8fb3e3dc8d3", func := "loop.example/g03015/laws.FnExactRelevantRules", spec := "fnExactRelevantRules", recurses := true, apart := false }
def FnExactRelevantRulesSaid : Prop := fnExactRelevantRulesRow.holds Try.pinned (OpenSpec.ofChange fnExactRelevantRulesSpec)

/-- ITS FALSE NEIGHBOUR: 'it returns false'. Refute it at one input. -/
def fnExactRelevantRulesWrong : ChangeSpec := { name := "fnExactRelevantRules", fn := fun _ => fun
  | [d1, d2] => { results := [.lit (.bool false)], args := [d1, d2] }
  | _ => none }
def FnExactRelevantRulesWrongFalsely : Prop := fnExactRelevantRulesRow.holds Try.pinned (OpenSpec.ofChange fnExactRelevantRulesWrong)

/-- 'laws.FnExactAreLogical': WHATEVER THE INPUT: true; the input reads as it did. -/
def fnExactAreLogicalSpec : ChangeSpec := { name := "fnExactAreLogical", fn := fun _ => fun
  | [d] => { results := [.lit (.bool true)], args := [d] }
  | _ => none }
def fnExactAreLogicalRow : OpenClaim := { program := "ytccbhhglghboaaa", sum := "b095561ebbfcd455809d3b94e5ce4036cd7f1bdc3b0a0fff45d5f8fb3e3dc8d3", func := "loop.example/g03015/laws.FnExactAreLogical", spec := "fnExactAreLogical", recurses := true, apart := false }
def FnExactAreLogicalSaid : Prop := fnExactAreLogicalRow.holds Try.pinned (OpenSpec.ofChange fnExactAreLogicalSpec)

/-- ITS FALSE NEIGHBOUR: 'it returns false'. Refute it at one input. -/
def fnExactAreLogicalWrong : ChangeSpec := { name := "fnExactAreLogical", fn := fun _ => fun
  | [d] => { results := [.lit (.bool false)], args := [d] }
  | _ => none }
def FnExactAreLogicalWrongFalsely : Prop := fnExactAreLogicalRow.holds Try.pinned (OpenSpec.ofChange fnExactAreLogicalWrong)

/- THE SECOND FORM. 'bulk': how many values and letters a reading holds, each counted each time it is reached (what is shared counts as often as it is met; a slice's spare places count too). A statement '..UptoSaid' is the law's where the arguments, and the package variables that the reading takes, are together of bulk at most 1048576: NARROWER than '..Said'. Prove '..Said' where nothing that the law and all that it calls make is longer than what came in: it says more and counts as full. Else prove '..UptoSaid'. A law counts once. -/
mutual
def uptoBulk {H : Type} : DataW H → Nat
  | .lit (.string bytes) => bytes.length + 1
  | .lit _ => 1
  | .nil => 1
  | .ptr d => uptoBulk d + 1
  | .slice elems spare => uptoBulkAll elems + uptoBulkAll spare + 1
  | .agg parts => uptoBulkAll parts + 1
  | .iface _ d => uptoBulk d + 1
  | .map entries => uptoBulkEntries entries + 1
  | .held _ => 1
def uptoBulkAll {H : Type} : List (DataW H) → Nat
  | [] => 0
  | d :: r => uptoBulk d + uptoBulkAll r
def uptoBulkEntries {H : Type} : List (Lit × DataW H) → Nat
  | [] => 0
  | x :: r => uptoBulkEntry x + uptoBulkEntries r
def uptoBulkEntry {H : Type} : Lit × DataW H → Nat
  | (.string bytes, d) => bytes.length + uptoBulk d + 1
  | (_, d) => uptoBulk d + 1
 end
def uptoSmall : (H : Type) → List (DataW H) → Bool := fun _ ds => decide (uptoBulkAll ds ≤ 1048576)
def OpenSpec.upto (s : _root_.Go.ChangeSpec) : _root_.Go.OpenSpec := { _root_.Go.OpenSpec.ofChange s with cond := some uptoSmall }

/-- 'laws.FnExactRulesIn', WHERE WHAT IT READS IS OF BULK AT MOST 1048576: true; the input reads as it did. -/
def fnExactRulesInUptoRow : OpenClaim := { program := "ytccbhhglghboaaa", sum := "b095561ebbfcd455809d3b94e5ce4036cd7f1bdc3b0a0fff45d5f8fb3e3dc8d3", func := "loop.example/g03015/laws.FnExactRulesIn", spec := "fnExactRulesIn", recurses := true, apart := false, narrowed := true }
def FnExactRulesInUptoSaid : Prop := fnExactRulesInUptoRow.holds Try.pinned (OpenSpec.upto fnExactRulesInSpec)

/-- 'laws.FnExactRelDepends', WHERE WHAT IT READS IS OF BULK AT MOST 1048576: true; the input reads as it did. -/
def fnExactRelDependsUptoRow : OpenClaim := { program := "ytccbhhglghboaaa", sum := "b095561ebbfcd455809d3b94e5ce4036cd7f1bdc3b0a0fff45d5f8fb3e3dc8d3", func := "loop.example/g03015/laws.FnExactRelDepends", spec := "fnExactRelDepends", recurses := true, apart := false, narrowed := true }
def FnExactRelDependsUptoSaid : Prop := fnExactRelDependsUptoRow.holds Try.pinned (OpenSpec.upto fnExactRelDependsSpec)

/-- 'laws.FnExactNogoodsOf', WHERE WHAT IT READS IS OF BULK AT MOST 1048576: true; the input reads as it did. -/
def fnExactNogoodsOfUptoRow : OpenClaim := { program := "ytccbhhglghboaaa", sum := "b095561ebbfcd455809d3b94e5ce4036cd7f1bdc3b0a0fff45d5f8fb3e3dc8d3", func := "loop.example/g03015/laws.FnExactNogoodsOf", spec := "fnExactNogoodsOf", unfollowed := true, recurses := true, apart := false, narrowed := true }
def FnExactNogoodsOfUptoSaid : Prop := fnExactNogoodsOfUptoRow.holds Try.pinned (OpenSpec.upto fnExactNogoodsOfSpec)

/-- 'laws.FnExactIsQuestion', WHERE WHAT IT READS IS OF BULK AT MOST 1048576: true; the input reads as it did. -/
def fnExactIsQuestionUptoRow : OpenClaim := { program := "ytccbhhglghboaaa", sum := "b095561ebbfcd455809d3b94e5ce4036cd7f1bdc3b0a0fff45d5f8fb3e3dc8d3", func := "loop.example/g03015/laws.FnExactIsQuestion", spec := "fnExactIsQuestion", recurses := true, apart := false, narrowed := true }
def FnExactIsQuestionUptoSaid : Prop := fnExactIsQuestionUptoRow.holds Try.pinned (OpenSpec.upto fnExactIsQuestionSpec)

/-- 'laws.FnExactLabelFor', WHERE WHAT IT READS IS OF BULK AT MOST 1048576: true; the input reads as it did. -/
def fnExactLabelForUptoRow : OpenClaim := { program := "ytccbhhglghboaaa", sum := "b095561ebbfcd455809d3b94e5ce4036cd7f1bdc3b0a0fff45d5f8fb3e3dc8d3", func := "loop.example/g03015/laws.FnExactLabelFor", spec := "fnExactLabelFor", unfollowed := true, recurses := true, apart := false, narrowed := true }
def FnExactLabelForUptoSaid : Prop := fnExactLabelForUptoRow.holds Try.pinned (OpenSpec.upto fnExactLabelForSpec)

/-- 'laws.FnExactIsLogical', WHERE WHAT IT READS IS OF BULK AT MOST 1048576: true; the input reads as it did. -/
def fnExactIsLogicalUptoRow : OpenClaim := { program := "ytccbhhglghboaaa", sum := "b095561ebbfcd455809d3b94e5ce4036cd7f1bdc3b0a0fff45d5f8fb3e3dc8d3", func := "loop.example/g03015/laws.FnExactIsLogical", spec := "fnExactIsLogical", recurses := true, apart := false, narrowed := true }
def FnExactIsLogicalUptoSaid : Prop := fnExactIsLogicalUptoRow.holds Try.pinned (OpenSpec.upto fnExactIsLogicalSpec)

/-- 'laws.FnExactRelevantRules', WHERE WHAT IT READS IS OF BULK AT MOST 1048576: true; the input reads as it did. -/
def fnExactRelevantRulesUptoRow : OpenClaim := { program := "ytccbhhglghboaaa", sum := "b095561ebbfcd455809d3b94e5ce4036cd7f1bdc3b0a0fff45d5f8fb3e3dc8d3", func := "loop.example/g03015/laws.FnExactRelevantRules", spec := "fnExactRelevantRules", recurses := true, apart := false, narrowed := true }
def FnExactRelevantRulesUptoSaid : Prop := fnExactRelevantRulesUptoRow.holds Try.pinned (OpenSpec.upto fnExactRelevantRulesSpec)

/-- 'laws.FnExactAreLogical', WHERE WHAT IT READS IS OF BULK AT MOST 1048576: true; the input reads as it did. -/
def fnExactAreLogicalUptoRow : OpenClaim := { program := "ytccbhhglghboaaa", sum := "b095561ebbfcd455809d3b94e5ce4036cd7f1bdc3b0a0fff45d5f8fb3e3dc8d3", func := "loop.example/g03015/laws.FnExactAreLogical", spec := "fnExactAreLogical", recurses := true, apart := false, narrowed := true }
def FnExactAreLogicalUptoSaid : Prop := fnExactAreLogicalUptoRow.holds Try.pinned (OpenSpec.upto fnExactAreLogicalSpec)

end Rows
end Go.Proofs.Ytccbhhglghboaaa
