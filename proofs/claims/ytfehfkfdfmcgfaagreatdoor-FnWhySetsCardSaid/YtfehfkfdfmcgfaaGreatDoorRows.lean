/-
  NARROWER THAN 'FOR EVERY INPUT', by the rows' own cells (each row's printed sentence says how): FnModel: laid · FnRelevant: laid · FnLeastModel: laid · FnExactFrameOf: laid · FnWhyLeast: laid · FnWhySets: laid · FnWithdrawnFact: laid · FnExactWhySets: laid.
  DERIVED. THE GIVEN ROWS OF THIS SEAT. 8 by the template 'for every input the law returns true; each argument reads behind the call as it read before'; 0 by the template 'total and deterministic' (their statements: YtfehfkfdfmcgfaaGreatDoorTotals.lean).
  GIVEN WITH THE SEED: the statements are not yours to turn. If you find one false, say at which input.
  Laid BY PROGRAM, IN A SANDBOX (cutbox-rows.mjs): the forced cells as the released guide's own fill.sh prints them over the translation 67ee26c97b5f8780… (all of the seat's roots in one cut). By AI agents, Wed Nov 11 2026. No macro, syntax, notation, axiom, sorry.
-/
import Derived.Test.YtfehfkfdfmcgfaaGreatDoorChecked
import GoSem.Claim
import GoSem.ClaimJoined
import GoSem.ClaimMapViews
import Derived.JoinedTies
import Derived.KernelRfl
namespace Go.Proofs.YtfehfkfdfmcgfaaGreatDoor
/- THE CELL 'sum', in the pinned program and in every row, IS THE sha256 OF THE DUMP (.gsa) THAT YtfehfkfdfmcgfaaGreatDoorProg.lean LOADS. Nothing in Lean hashes anything: it is a label: what it is worth is what the hold of that sum in a sandbox is worth. -/
noncomputable def Tryz.pinned : Pinned := { name := "ytfehfkfdfmcgfaagreatdoor", sum := "67ee26c97b5f87803445ebd414fa3c5458a5808de5cc6522ac958495966daf61", checked := Tryz.checked }
namespace Rows
def none {H : Type} : Left H := { results := [], args := [] }

/- WHAT THE LISTED PACKAGE-LEVEL VARIABLES READ AS WHEN THE CALL BEGINS. Each datum BY PROGRAM (the guide's laid-datum.mjs) off the statement by which the dump's own 'gosem.cut.vars' lays the variable. In a bare row this is a premise. The card (YtfehfkfdfmcgfaaGreatDoorCards.lean) ties it to the program's text. -/
def laid_math_bits_deBruijn32tab {H : Type} : DataW H := .agg [.lit (.int .u8 0), .lit (.int .u8 1), .lit (.int .u8 28), .lit (.int .u8 2), .lit (.int .u8 29), .lit (.int .u8 14), .lit (.int .u8 24), .lit (.int .u8 3), .lit (.int .u8 30), .lit (.int .u8 22), .lit (.int .u8 20), .lit (.int .u8 15), .lit (.int .u8 25), .lit (.int .u8 17), .lit (.int .u8 4), .lit (.int .u8 8), .lit (.int .u8 31), .lit (.int .u8 27), .lit (.int .u8 13), .lit (.int .u8 23), .lit (.int .u8 21), .lit (.int .u8 19), .lit (.int .u8 16), .lit (.int .u8 7), .lit (.int .u8 26), .lit (.int .u8 12), .lit (.int .u8 18), .lit (.int .u8 6), .lit (.int .u8 11), .lit (.int .u8 5), .lit (.int .u8 10), .lit (.int .u8 9)]
def laid_math_bits_deBruijn64tab {H : Type} : DataW H := .agg [.lit (.int .u8 0), .lit (.int .u8 1), .lit (.int .u8 56), .lit (.int .u8 2), .lit (.int .u8 57), .lit (.int .u8 49), .lit (.int .u8 28), .lit (.int .u8 3), .lit (.int .u8 61), .lit (.int .u8 58), .lit (.int .u8 42), .lit (.int .u8 50), .lit (.int .u8 38), .lit (.int .u8 29), .lit (.int .u8 17), .lit (.int .u8 4), .lit (.int .u8 62), .lit (.int .u8 47), .lit (.int .u8 59), .lit (.int .u8 36), .lit (.int .u8 45), .lit (.int .u8 43), .lit (.int .u8 51), .lit (.int .u8 22), .lit (.int .u8 53), .lit (.int .u8 39), .lit (.int .u8 33), .lit (.int .u8 30), .lit (.int .u8 24), .lit (.int .u8 18), .lit (.int .u8 12), .lit (.int .u8 5), .lit (.int .u8 63), .lit (.int .u8 55), .lit (.int .u8 48), .lit (.int .u8 27), .lit (.int .u8 60), .lit (.int .u8 41), .lit (.int .u8 37), .lit (.int .u8 16), .lit (.int .u8 46), .lit (.int .u8 35), .lit (.int .u8 44), .lit (.int .u8 21), .lit (.int .u8 52), .lit (.int .u8 32), .lit (.int .u8 23), .lit (.int .u8 11), .lit (.int .u8 54), .lit (.int .u8 26), .lit (.int .u8 40), .lit (.int .u8 15), .lit (.int .u8 34), .lit (.int .u8 20), .lit (.int .u8 31), .lit (.int .u8 10), .lit (.int .u8 25), .lit (.int .u8 14), .lit (.int .u8 19), .lit (.int .u8 9), .lit (.int .u8 13), .lit (.int .u8 8), .lit (.int .u8 7), .lit (.int .u8 6)]
def laid_internal_strconv_uint64pow10 {H : Type} : DataW H := .agg [.lit (.int .u64 1), .lit (.int .u64 10), .lit (.int .u64 100), .lit (.int .u64 1000), .lit (.int .u64 10000), .lit (.int .u64 100000), .lit (.int .u64 1000000), .lit (.int .u64 10000000), .lit (.int .u64 100000000), .lit (.int .u64 1000000000), .lit (.int .u64 10000000000), .lit (.int .u64 100000000000), .lit (.int .u64 1000000000000), .lit (.int .u64 10000000000000), .lit (.int .u64 100000000000000), .lit (.int .u64 1000000000000000), .lit (.int .u64 10000000000000000), .lit (.int .u64 100000000000000000), .lit (.int .u64 1000000000000000000), .lit (.int .u64 10000000000000000000)]
def laid_strconv_ErrRange {H : Type} : DataW H := .iface "*errors.errorString" (.ptr (.agg [.lit (.string [118, 97, 108, 117, 101, 32, 111, 117, 116, 32, 111, 102, 32, 114, 97, 110, 103, 101])]))
def laid_strconv_ErrSyntax {H : Type} : DataW H := .iface "*errors.errorString" (.ptr (.agg [.lit (.string [105, 110, 118, 97, 108, 105, 100, 32, 115, 121, 110, 116, 97, 120])]))

/-- 'laws.FnModel': WHATEVER THE INPUT: true; the input reads as it did. -/
def fnModelSpec : ChangeSpec := { name := "fnModel", fn := fun _ => fun
  | [d] => { results := [.lit (.bool true)], args := [d] }
  | _ => none }
def fnModelRow : OpenClaim := { program := "ytfehfkfdfmcgfaagreatdoor", sum := "67ee26c97b5f87803445ebd414fa3c5458a5808de5cc6522ac958495966daf61", func := "loop.example/g03015/laws.FnModel", spec := "fnModel", inPlace := ["internal/bytealg.abigen_runtime_cmpstring"], recurses := true, named := ["strconv.ErrSyntax", "strconv.ErrRange", "internal/strconv.uint64pow10", "math/bits.deBruijn32tab", "math/bits.deBruijn64tab"], apart := false, laid := [("math/bits.deBruijn32tab", laid_math_bits_deBruijn32tab), ("math/bits.deBruijn64tab", laid_math_bits_deBruijn64tab), ("internal/strconv.uint64pow10", laid_internal_strconv_uint64pow10), ("strconv.ErrRange", laid_strconv_ErrRange), ("strconv.ErrSyntax", laid_strconv_ErrSyntax)] }
def FnModelSaid : Prop := fnModelRow.holds Tryz.pinned (OpenSpec.ofChange fnModelSpec)

/-- ITS FALSE NEIGHBOUR: 'it returns false'. Refute it at one input. -/
def fnModelWrong : ChangeSpec := { name := "fnModel", fn := fun _ => fun
  | [d] => { results := [.lit (.bool false)], args := [d] }
  | _ => none }
def FnModelWrongFalsely : Prop := fnModelRow.holds Tryz.pinned (OpenSpec.ofChange fnModelWrong)

/-- 'laws.FnRelevant': WHATEVER THE INPUT: true; the input reads as it did. -/
def fnRelevantSpec : ChangeSpec := { name := "fnRelevant", fn := fun _ => fun
  | [d] => { results := [.lit (.bool true)], args := [d] }
  | _ => none }
def fnRelevantRow : OpenClaim := { program := "ytfehfkfdfmcgfaagreatdoor", sum := "67ee26c97b5f87803445ebd414fa3c5458a5808de5cc6522ac958495966daf61", func := "loop.example/g03015/laws.FnRelevant", spec := "fnRelevant", inPlace := ["internal/bytealg.abigen_runtime_cmpstring"], recurses := true, named := ["strconv.ErrSyntax", "strconv.ErrRange", "internal/strconv.uint64pow10", "math/bits.deBruijn32tab", "math/bits.deBruijn64tab"], apart := false, laid := [("math/bits.deBruijn32tab", laid_math_bits_deBruijn32tab), ("math/bits.deBruijn64tab", laid_math_bits_deBruijn64tab), ("internal/strconv.uint64pow10", laid_internal_strconv_uint64pow10), ("strconv.ErrRange", laid_strconv_ErrRange), ("strconv.ErrSyntax", laid_strconv_ErrSyntax)] }
def FnRelevantSaid : Prop := fnRelevantRow.holds Tryz.pinned (OpenSpec.ofChange fnRelevantSpec)

/-- ITS FALSE NEIGHBOUR: 'it returns false'. Refute it at one input. -/
def fnRelevantWrong : ChangeSpec := { name := "fnRelevant", fn := fun _ => fun
  | [d] => { results := [.lit (.bool false)], args := [d] }
  | _ => none }
def FnRelevantWrongFalsely : Prop := fnRelevantRow.holds Tryz.pinned (OpenSpec.ofChange fnRelevantWrong)

/-- 'laws.FnLeastModel': WHATEVER THE INPUT: true; the input reads as it did. -/
def fnLeastModelSpec : ChangeSpec := { name := "fnLeastModel", fn := fun _ => fun
  | [d] => { results := [.lit (.bool true)], args := [d] }
  | _ => none }
def fnLeastModelRow : OpenClaim := { program := "ytfehfkfdfmcgfaagreatdoor", sum := "67ee26c97b5f87803445ebd414fa3c5458a5808de5cc6522ac958495966daf61", func := "loop.example/g03015/laws.FnLeastModel", spec := "fnLeastModel", inPlace := ["internal/bytealg.abigen_runtime_cmpstring"], recurses := true, named := ["strconv.ErrSyntax", "strconv.ErrRange", "internal/strconv.uint64pow10", "math/bits.deBruijn32tab", "math/bits.deBruijn64tab"], apart := false, laid := [("math/bits.deBruijn32tab", laid_math_bits_deBruijn32tab), ("math/bits.deBruijn64tab", laid_math_bits_deBruijn64tab), ("internal/strconv.uint64pow10", laid_internal_strconv_uint64pow10), ("strconv.ErrRange", laid_strconv_ErrRange), ("strconv.ErrSyntax", laid_strconv_ErrSyntax)] }
def FnLeastModelSaid : Prop := fnLeastModelRow.holds Tryz.pinned (OpenSpec.ofChange fnLeastModelSpec)

/-- ITS FALSE NEIGHBOUR: 'it returns false'. Refute it at one input. -/
def fnLeastModelWrong : ChangeSpec := { name := "fnLeastModel", fn := fun _ => fun
  | [d] => { results := [.lit (.bool false)], args := [d] }
  | _ => none }
def FnLeastModelWrongFalsely : Prop := fnLeastModelRow.holds Tryz.pinned (OpenSpec.ofChange fnLeastModelWrong)

/-- 'laws.FnExactFrameOf': WHATEVER THE INPUT: true; the input reads as it did. -/
def fnExactFrameOfSpec : ChangeSpec := { name := "fnExactFrameOf", fn := fun _ => fun
  | [d1, d2, d3] => { results := [.lit (.bool true)], args := [d1, d2, d3] }
  | _ => none }
def fnExactFrameOfRow : OpenClaim := { program := "ytfehfkfdfmcgfaagreatdoor", sum := "67ee26c97b5f87803445ebd414fa3c5458a5808de5cc6522ac958495966daf61", func := "loop.example/g03015/laws.FnExactFrameOf", spec := "fnExactFrameOf", inPlace := ["internal/bytealg.abigen_runtime_cmpstring"], recurses := true, named := ["strconv.ErrSyntax", "strconv.ErrRange", "internal/strconv.uint64pow10", "math/bits.deBruijn32tab", "math/bits.deBruijn64tab"], apart := false, laid := [("math/bits.deBruijn32tab", laid_math_bits_deBruijn32tab), ("math/bits.deBruijn64tab", laid_math_bits_deBruijn64tab), ("internal/strconv.uint64pow10", laid_internal_strconv_uint64pow10), ("strconv.ErrRange", laid_strconv_ErrRange), ("strconv.ErrSyntax", laid_strconv_ErrSyntax)] }
def FnExactFrameOfSaid : Prop := fnExactFrameOfRow.holds Tryz.pinned (OpenSpec.ofChange fnExactFrameOfSpec)

/-- ITS FALSE NEIGHBOUR: 'it returns false'. Refute it at one input. -/
def fnExactFrameOfWrong : ChangeSpec := { name := "fnExactFrameOf", fn := fun _ => fun
  | [d1, d2, d3] => { results := [.lit (.bool false)], args := [d1, d2, d3] }
  | _ => none }
def FnExactFrameOfWrongFalsely : Prop := fnExactFrameOfRow.holds Tryz.pinned (OpenSpec.ofChange fnExactFrameOfWrong)

/-- 'laws.FnWhyLeast': WHATEVER THE INPUT: true; the input reads as it did. -/
def fnWhyLeastSpec : ChangeSpec := { name := "fnWhyLeast", fn := fun _ => fun
  | [d] => { results := [.lit (.bool true)], args := [d] }
  | _ => none }
def fnWhyLeastRow : OpenClaim := { program := "ytfehfkfdfmcgfaagreatdoor", sum := "67ee26c97b5f87803445ebd414fa3c5458a5808de5cc6522ac958495966daf61", func := "loop.example/g03015/laws.FnWhyLeast", spec := "fnWhyLeast", inPlace := ["internal/bytealg.abigen_runtime_cmpstring"], unfollowed := true, recurses := true, named := ["strconv.ErrSyntax", "strconv.ErrRange", "internal/strconv.uint64pow10", "math/bits.deBruijn32tab", "math/bits.deBruijn64tab"], apart := false, laid := [("math/bits.deBruijn32tab", laid_math_bits_deBruijn32tab), ("math/bits.deBruijn64tab", laid_math_bits_deBruijn64tab), ("internal/strconv.uint64pow10", laid_internal_strconv_uint64pow10), ("strconv.ErrRange", laid_strconv_ErrRange), ("strconv.ErrSyntax", laid_strconv_ErrSyntax)] }
def FnWhyLeastSaid : Prop := fnWhyLeastRow.holds Tryz.pinned (OpenSpec.ofChange fnWhyLeastSpec)

/-- ITS FALSE NEIGHBOUR: 'it returns false'. Refute it at one input. -/
def fnWhyLeastWrong : ChangeSpec := { name := "fnWhyLeast", fn := fun _ => fun
  | [d] => { results := [.lit (.bool false)], args := [d] }
  | _ => none }
def FnWhyLeastWrongFalsely : Prop := fnWhyLeastRow.holds Tryz.pinned (OpenSpec.ofChange fnWhyLeastWrong)

/-- 'laws.FnWhySets': WHATEVER THE INPUT: true; the input reads as it did. -/
def fnWhySetsSpec : ChangeSpec := { name := "fnWhySets", fn := fun _ => fun
  | [d] => { results := [.lit (.bool true)], args := [d] }
  | _ => none }
def fnWhySetsRow : OpenClaim := { program := "ytfehfkfdfmcgfaagreatdoor", sum := "67ee26c97b5f87803445ebd414fa3c5458a5808de5cc6522ac958495966daf61", func := "loop.example/g03015/laws.FnWhySets", spec := "fnWhySets", inPlace := ["internal/bytealg.abigen_runtime_cmpstring"], unfollowed := true, recurses := true, named := ["strconv.ErrSyntax", "strconv.ErrRange", "internal/strconv.uint64pow10", "math/bits.deBruijn32tab", "math/bits.deBruijn64tab"], apart := false, laid := [("math/bits.deBruijn32tab", laid_math_bits_deBruijn32tab), ("math/bits.deBruijn64tab", laid_math_bits_deBruijn64tab), ("internal/strconv.uint64pow10", laid_internal_strconv_uint64pow10), ("strconv.ErrRange", laid_strconv_ErrRange), ("strconv.ErrSyntax", laid_strconv_ErrSyntax)] }
def FnWhySetsSaid : Prop := fnWhySetsRow.holds Tryz.pinned (OpenSpec.ofChange fnWhySetsSpec)

/-- ITS FALSE NEIGHBOUR: 'it returns false'. Refute it at one input. -/
def fnWhySetsWrong : ChangeSpec := { name := "fnWhySets", fn := fun _ => fun
  | [d] => { results := [.lit (.bool false)], args := [d] }
  | _ => none }
def FnWhySetsWrongFalsely : Prop := fnWhySetsRow.holds Tryz.pinned (OpenSpec.ofChange fnWhySetsWrong)

/-- 'laws.FnWithdrawnFact': WHATEVER THE INPUT: true; the input reads as it did. -/
def fnWithdrawnFactSpec : ChangeSpec := { name := "fnWithdrawnFact", fn := fun _ => fun
  | [d] => { results := [.lit (.bool true)], args := [d] }
  | _ => none }
def fnWithdrawnFactRow : OpenClaim := { program := "ytfehfkfdfmcgfaagreatdoor", sum := "67ee26c97b5f87803445ebd414fa3c5458a5808de5cc6522ac958495966daf61", func := "loop.example/g03015/laws.FnWithdrawnFact", spec := "fnWithdrawnFact", inPlace := ["internal/bytealg.abigen_runtime_cmpstring"], recurses := true, named := ["strconv.ErrSyntax", "strconv.ErrRange", "internal/strconv.uint64pow10", "math/bits.deBruijn32tab", "math/bits.deBruijn64tab"], apart := false, laid := [("math/bits.deBruijn32tab", laid_math_bits_deBruijn32tab), ("math/bits.deBruijn64tab", laid_math_bits_deBruijn64tab), ("internal/strconv.uint64pow10", laid_internal_strconv_uint64pow10), ("strconv.ErrRange", laid_strconv_ErrRange), ("strconv.ErrSyntax", laid_strconv_ErrSyntax)] }
def FnWithdrawnFactSaid : Prop := fnWithdrawnFactRow.holds Tryz.pinned (OpenSpec.ofChange fnWithdrawnFactSpec)

/-- ITS FALSE NEIGHBOUR: 'it returns false'. Refute it at one input. -/
def fnWithdrawnFactWrong : ChangeSpec := { name := "fnWithdrawnFact", fn := fun _ => fun
  | [d] => { results := [.lit (.bool false)], args := [d] }
  | _ => none }
def FnWithdrawnFactWrongFalsely : Prop := fnWithdrawnFactRow.holds Tryz.pinned (OpenSpec.ofChange fnWithdrawnFactWrong)

/-- 'laws.FnExactWhySets': WHATEVER THE INPUT: true; the input reads as it did. -/
def fnExactWhySetsSpec : ChangeSpec := { name := "fnExactWhySets", fn := fun _ => fun
  | [d1, d2, d3, d4] => { results := [.lit (.bool true)], args := [d1, d2, d3, d4] }
  | _ => none }
def fnExactWhySetsRow : OpenClaim := { program := "ytfehfkfdfmcgfaagreatdoor", sum := "67ee26c97b5f87803445ebd414fa3c5458a5808de5cc6522ac958495966daf61", func := "loop.example/g03015/laws.FnExactWhySets", spec := "fnExactWhySets", inPlace := ["internal/bytealg.abigen_runtime_cmpstring"], unfollowed := true, recurses := true, named := ["strconv.ErrSyntax", "strconv.ErrRange", "internal/strconv.uint64pow10", "math/bits.deBruijn32tab", "math/bits.deBruijn64tab"], apart := false, laid := [("math/bits.deBruijn32tab", laid_math_bits_deBruijn32tab), ("math/bits.deBruijn64tab", laid_math_bits_deBruijn64tab), ("internal/strconv.uint64pow10", laid_internal_strconv_uint64pow10), ("strconv.ErrRange", laid_strconv_ErrRange), ("strconv.ErrSyntax", laid_strconv_ErrSyntax)] }
def FnExactWhySetsSaid : Prop := fnExactWhySetsRow.holds Tryz.pinned (OpenSpec.ofChange fnExactWhySetsSpec)

/-- ITS FALSE NEIGHBOUR: 'it returns false'. Refute it at one input. -/
def fnExactWhySetsWrong : ChangeSpec := { name := "fnExactWhySets", fn := fun _ => fun
  | [d1, d2, d3, d4] => { results := [.lit (.bool false)], args := [d1, d2, d3, d4] }
  | _ => none }
def FnExactWhySetsWrongFalsely : Prop := fnExactWhySetsRow.holds Tryz.pinned (OpenSpec.ofChange fnExactWhySetsWrong)

/- THE SECOND FORM. 'bulk': how many values and letters a reading holds, each counted each time it is reached (what is shared counts as often as it is met; a slice's spare places count too). A statement '..UptoSaid' is the law's where the arguments, and the package variables that the reading takes, are together of bulk at most 1048576: NARROWER than '..Said'. Prove '..Said' where nothing that the law and all that it calls make is longer than what came in: it says more and counts as full. Else prove '..UptoSaid'. A law counts once. -/
mutual
def uptoBulk {H : Type} : DataW H → Nat
  | .lit (.string bytes) => bytes.length + 1
  | .lit _ => 1
  | .nil => 1
  | .ptr d => uptoBulk d + 1
  | .slice elems spare => uptoBulkAll elems + uptoBulkAll spare + 1
  | .agg parts => uptoBulkAll parts + 1
  | .iface _ d => uptoBulk d + 1
  | .map entries => uptoBulkEntries entries + 1
  | .held _ => 1
def uptoBulkAll {H : Type} : List (DataW H) → Nat
  | [] => 0
  | d :: r => uptoBulk d + uptoBulkAll r
def uptoBulkEntries {H : Type} : List (Lit × DataW H) → Nat
  | [] => 0
  | x :: r => uptoBulkEntry x + uptoBulkEntries r
def uptoBulkEntry {H : Type} : Lit × DataW H → Nat
  | (.string bytes, d) => bytes.length + uptoBulk d + 1
  | (_, d) => uptoBulk d + 1
 end
def uptoSmall : (H : Type) → List (DataW H) → Bool := fun _ ds => decide (uptoBulkAll ds ≤ 1048576)
def OpenSpec.upto (s : _root_.Go.ChangeSpec) : _root_.Go.OpenSpec := { _root_.Go.OpenSpec.ofChange s with cond := some uptoSmall }

/-- 'laws.FnModel', WHERE WHAT IT READS IS OF BULK AT MOST 1048576: true; the input reads as it did. -/
def fnModelUptoRow : OpenClaim := { program := "ytfehfkfdfmcgfaagreatdoor", sum := "67ee26c97b5f87803445ebd414fa3c5458a5808de5cc6522ac958495966daf61", func := "loop.example/g03015/laws.FnModel", spec := "fnModel", inPlace := ["internal/bytealg.abigen_runtime_cmpstring"], recurses := true, named := ["strconv.ErrSyntax", "strconv.ErrRange", "internal/strconv.uint64pow10", "math/bits.deBruijn32tab", "math/bits.deBruijn64tab"], apart := false, laid := [("math/bits.deBruijn32tab", laid_math_bits_deBruijn32tab), ("math/bits.deBruijn64tab", laid_math_bits_deBruijn64tab), ("internal/strconv.uint64pow10", laid_internal_strconv_uint64pow10), ("strconv.ErrRange", laid_strconv_ErrRange), ("strconv.ErrSyntax", laid_strconv_ErrSyntax)], narrowed := true }
def FnModelUptoSaid : Prop := fnModelUptoRow.holds Tryz.pinned (OpenSpec.upto fnModelSpec)

/-- 'laws.FnRelevant', WHERE WHAT IT READS IS OF BULK AT MOST 1048576: true; the input reads as it did. -/
def fnRelevantUptoRow : OpenClaim := { program := "ytfehfkfdfmcgfaagreatdoor", sum := "67ee26c97b5f87803445ebd414fa3c5458a5808de5cc6522ac958495966daf61", func := "loop.example/g03015/laws.FnRelevant", spec := "fnRelevant", inPlace := ["internal/bytealg.abigen_runtime_cmpstring"], recurses := true, named := ["strconv.ErrSyntax", "strconv.ErrRange", "internal/strconv.uint64pow10", "math/bits.deBruijn32tab", "math/bits.deBruijn64tab"], apart := false, laid := [("math/bits.deBruijn32tab", laid_math_bits_deBruijn32tab), ("math/bits.deBruijn64tab", laid_math_bits_deBruijn64tab), ("internal/strconv.uint64pow10", laid_internal_strconv_uint64pow10), ("strconv.ErrRange", laid_strconv_ErrRange), ("strconv.ErrSyntax", laid_strconv_ErrSyntax)], narrowed := true }
def FnRelevantUptoSaid : Prop := fnRelevantUptoRow.holds Tryz.pinned (OpenSpec.upto fnRelevantSpec)

/-- 'laws.FnLeastModel', WHERE WHAT IT READS IS OF BULK AT MOST 1048576: true; the input reads as it did. -/
def fnLeastModelUptoRow : OpenClaim := { program := "ytfehfkfdfmcgfaagreatdoor", sum := "67ee26c97b5f87803445ebd414fa3c5458a5808de5cc6522ac958495966daf61", func := "loop.example/g03015/laws.FnLeastModel", spec := "fnLeastModel", inPlace := ["internal/bytealg.abigen_runtime_cmpstring"], recurses := true, named := ["strconv.ErrSyntax", "strconv.ErrRange", "internal/strconv.uint64pow10", "math/bits.deBruijn32tab", "math/bits.deBruijn64tab"], apart := false, laid := [("math/bits.deBruijn32tab", laid_math_bits_deBruijn32tab), ("math/bits.deBruijn64tab", laid_math_bits_deBruijn64tab), ("internal/strconv.uint64pow10", laid_internal_strconv_uint64pow10), ("strconv.ErrRange", laid_strconv_ErrRange), ("strconv.ErrSyntax", laid_strconv_ErrSyntax)], narrowed := true }
def FnLeastModelUptoSaid : Prop := fnLeastModelUptoRow.holds Tryz.pinned (OpenSpec.upto fnLeastModelSpec)

/-- 'laws.FnExactFrameOf', WHERE WHAT IT READS IS OF BULK AT MOST 1048576: true; the input reads as it did. -/
def fnExactFrameOfUptoRow : OpenClaim := { program := "ytfehfkfdfmcgfaagreatdoor", sum := "67ee26c97b5f87803445ebd414fa3c5458a5808de5cc6522ac958495966daf61", func := "loop.example/g03015/laws.FnExactFrameOf", spec := "fnExactFrameOf", inPlace := ["internal/bytealg.abigen_runtime_cmpstring"], recurses := true, named := ["strconv.ErrSyntax", "strconv.ErrRange", "internal/strconv.uint64pow10", "math/bits.deBruijn32tab", "math/bits.deBruijn64tab"], apart := false, laid := [("math/bits.deBruijn32tab", laid_math_bits_deBruijn32tab), ("math/bits.deBruijn64tab", laid_math_bits_deBruijn64tab), ("internal/strconv.uint64pow10", laid_internal_strconv_uint64pow10), ("strconv.ErrRange", laid_strconv_ErrRange), ("strconv.ErrSyntax", laid_strconv_ErrSyntax)], narrowed := true }
def FnExactFrameOfUptoSaid : Prop := fnExactFrameOfUptoRow.holds Tryz.pinned (OpenSpec.upto fnExactFrameOfSpec)

/-- 'laws.FnWhyLeast', WHERE WHAT IT READS IS OF BULK AT MOST 1048576: true; the input reads as it did. -/
def fnWhyLeastUptoRow : OpenClaim := { program := "ytfehfkfdfmcgfaagreatdoor", sum := "67ee26c97b5f87803445ebd414fa3c5458a5808de5cc6522ac958495966daf61", func := "loop.example/g03015/laws.FnWhyLeast", spec := "fnWhyLeast", inPlace := ["internal/bytealg.abigen_runtime_cmpstring"], unfollowed := true, recurses := true, named := ["strconv.ErrSyntax", "strconv.ErrRange", "internal/strconv.uint64pow10", "math/bits.deBruijn32tab", "math/bits.deBruijn64tab"], apart := false, laid := [("math/bits.deBruijn32tab", laid_math_bits_deBruijn32tab), ("math/bits.deBruijn64tab", laid_math_bits_deBruijn64tab), ("internal/strconv.uint64pow10", laid_internal_strconv_uint64pow10), ("strconv.ErrRange", laid_strconv_ErrRange), ("strconv.ErrSyntax", laid_strconv_ErrSyntax)], narrowed := true }
def FnWhyLeastUptoSaid : Prop := fnWhyLeastUptoRow.holds Tryz.pinned (OpenSpec.upto fnWhyLeastSpec)

/-- 'laws.FnWhySets', WHERE WHAT IT READS IS OF BULK AT MOST 1048576: true; the input reads as it did. -/
def fnWhySetsUptoRow : OpenClaim := { program := "ytfehfkfdfmcgfaagreatdoor", sum := "67ee26c97b5f87803445ebd414fa3c5458a5808de5cc6522ac958495966daf61", func := "loop.example/g03015/laws.FnWhySets", spec := "fnWhySets", inPlace := ["internal/bytealg.abigen_runtime_cmpstring"], unfollowed := true, recurses := true, named := ["strconv.ErrSyntax", "strconv.ErrRange", "internal/strconv.uint64pow10", "math/bits.deBruijn32tab", "math/bits.deBruijn64tab"], apart := false, laid := [("math/bits.deBruijn32tab", laid_math_bits_deBruijn32tab), ("math/bits.deBruijn64tab", laid_math_bits_deBruijn64tab), ("internal/strconv.uint64pow10", laid_internal_strconv_uint64pow10), ("strconv.ErrRange", laid_strconv_ErrRange), ("strconv.ErrSyntax", laid_strconv_ErrSyntax)], narrowed := true }
def FnWhySetsUptoSaid : Prop := fnWhySetsUptoRow.holds Tryz.pinned (OpenSpec.upto fnWhySetsSpec)

/-- 'laws.FnWithdrawnFact', WHERE WHAT IT READS IS OF BULK AT MOST 1048576: true; the input reads as it did. -/
def fnWithdrawnFactUptoRow : OpenClaim := { program := "ytfehfkfdfmcgfaagreatdoor", sum := "67ee26c97b5f87803445ebd414fa3c5458a5808de5cc6522ac958495966daf61", func := "loop.example/g03015/laws.FnWithdrawnFact", spec := "fnWithdrawnFact", inPlace := ["internal/bytealg.abigen_runtime_cmpstring"], recurses := true, named := ["strconv.ErrSyntax", "strconv.ErrRange", "internal/strconv.uint64pow10", "math/bits.deBruijn32tab", "math/bits.deBruijn64tab"], apart := false, laid := [("math/bits.deBruijn32tab", laid_math_bits_deBruijn32tab), ("math/bits.deBruijn64tab", laid_math_bits_deBruijn64tab), ("internal/strconv.uint64pow10", laid_internal_strconv_uint64pow10), ("strconv.ErrRange", laid_strconv_ErrRange), ("strconv.ErrSyntax", laid_strconv_ErrSyntax)], narrowed := true }
def FnWithdrawnFactUptoSaid : Prop := fnWithdrawnFactUptoRow.holds Tryz.pinned (OpenSpec.upto fnWithdrawnFactSpec)

/-- 'laws.FnExactWhySets', WHERE WHAT IT READS IS OF BULK AT MOST 1048576: true; the input reads as it did. -/
def fnExactWhySetsUptoRow : OpenClaim := { program := "ytfehfkfdfmcgfaagreatdoor", sum := "67ee26c97b5f87803445ebd414fa3c5458a5808de5cc6522ac958495966daf61", func := "loop.example/g03015/laws.FnExactWhySets", spec := "fnExactWhySets", inPlace := ["internal/bytealg.abigen_runtime_cmpstring"], unfollowed := true, recurses := true, named := ["strconv.ErrSyntax", "strconv.ErrRange", "internal/strconv.uint64pow10", "math/bits.deBruijn32tab", "math/bits.deBruijn64tab"], apart := false, laid := [("math/bits.deBruijn32tab", laid_math_bits_deBruijn32tab), ("math/bits.deBruijn64tab", laid_math_bits_deBruijn64tab), ("internal/strconv.uint64pow10", laid_internal_strconv_uint64pow10), ("strconv.ErrRange", laid_strconv_ErrRange), ("strconv.ErrSyntax", laid_strconv_ErrSyntax)], narrowed := true }
def FnExactWhySetsUptoSaid : Prop := fnExactWhySetsUptoRow.holds Tryz.pinned (OpenSpec.upto fnExactWhySetsSpec)

end Rows
end Go.Proofs.YtfehfkfdfmcgfaaGreatDoor
