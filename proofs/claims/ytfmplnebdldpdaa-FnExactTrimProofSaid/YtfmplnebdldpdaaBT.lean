/- The table of types for the abstract machine, and the trees of the program's structs. Printed by bgen.py. -/
import Derived.Test.YtfmplnebdldpdaaBFn
import Derived.Test.YtfmplnebdldpdaaBTok
import Derived.Test.YtfmplnebdldpdaaBLoop
import Derived.Test.YtfmplnebdldpdaaTypes
import Derived.Test.YtfmplnebdldpdaaProg
namespace Go.Proofs.Ytfmplnebdldpdaa
open Go.RowKit
def ttL : List (Nat × TI) := [
  (2, .atom (.c (.int .i64 0))),
  (3, .atom (.c (.int .i64 0))),
  (4, .atom (.c (.bool false))),
  (5, .atom (.c (.int .u8 0))),
  (9, .atom (.c (.str ⟨#[]⟩))),
  (21, .atom (.c (.int .i32 0))),
  (22, .slice 51 4 80 [.c (.str ⟨#[]⟩), .nil 9 1, .c (.str ⟨#[]⟩), .nil 3 1]),
  (25, .slice 54 4 80 [.c (.str ⟨#[]⟩), .nil 9 1, .c (.str ⟨#[]⟩), .nil 3 1]),
  (32, .slice 3 1 8 [.c (.int .i64 0)]),
  (37, .slice 5 1 1 [.c (.int .u8 0)]),
  (47, .slice 9 1 16 [.c (.str ⟨#[]⟩)]),
  (49, .strct [⟨0, 1, false⟩, ⟨1, 1, false⟩] 2 [.c (.str ⟨#[]⟩), .nil 9 1]),
  (51, .strct [⟨0, 2, true⟩, ⟨2, 1, false⟩, ⟨3, 1, false⟩] 4 [.c (.str ⟨#[]⟩), .nil 9 1, .c (.str ⟨#[]⟩), .nil 3 1]),
  (52, .strct [⟨0, 1, false⟩, ⟨1, 1, false⟩] 2 [.c (.str ⟨#[]⟩), .nil 9 1]),
  (54, .strct [⟨0, 2, true⟩, ⟨2, 1, false⟩, ⟨3, 1, false⟩] 4 [.c (.str ⟨#[]⟩), .nil 9 1, .c (.str ⟨#[]⟩), .nil 3 1]),
  (58, .slice 4 1 1 [.c (.bool false)]),
  (72, .strct [⟨0, 1, false⟩, ⟨1, 1, false⟩, ⟨2, 1, false⟩] 3 [.nil 5 1, .c (.int .i64 0), .c (.int .i64 0)]),
  (79, .atom (.c (.int .u64 0))),
  (90, .atom (.c (.int .u32 0))),
  (92, .atom (.c (.int .u64 0)))]
def tt (t : Nat) : Option TI := look ttL t
theorem htt : ∀ t i, tt t = some i → TOk Try.prog t i := tts_ok ttL (by kernel_rfl)
theorem hmix : Try.prog.follows .mixedOrders = true := by kernel_rfl
theorem tt2 : tt 2 = some (.atom (.c (.int .i64 0))) := rfl
theorem tt3 : tt 3 = some (.atom (.c (.int .i64 0))) := rfl
theorem tt4 : tt 4 = some (.atom (.c (.bool false))) := rfl
theorem tt5 : tt 5 = some (.atom (.c (.int .u8 0))) := rfl
theorem tt9 : tt 9 = some (.atom (.c (.str ⟨#[]⟩))) := rfl
theorem tt21 : tt 21 = some (.atom (.c (.int .i32 0))) := rfl
theorem tt22 : tt 22 = some (.slice 51 4 80 [.c (.str ⟨#[]⟩), .nil 9 1, .c (.str ⟨#[]⟩), .nil 3 1]) := rfl
theorem tt25 : tt 25 = some (.slice 54 4 80 [.c (.str ⟨#[]⟩), .nil 9 1, .c (.str ⟨#[]⟩), .nil 3 1]) := rfl
theorem tt32 : tt 32 = some (.slice 3 1 8 [.c (.int .i64 0)]) := rfl
theorem tt37 : tt 37 = some (.slice 5 1 1 [.c (.int .u8 0)]) := rfl
theorem tt47 : tt 47 = some (.slice 9 1 16 [.c (.str ⟨#[]⟩)]) := rfl
theorem tt49 : tt 49 = some (.strct [⟨0, 1, false⟩, ⟨1, 1, false⟩] 2 [.c (.str ⟨#[]⟩), .nil 9 1]) := rfl
theorem tt51 : tt 51 = some (.strct [⟨0, 2, true⟩, ⟨2, 1, false⟩, ⟨3, 1, false⟩] 4 [.c (.str ⟨#[]⟩), .nil 9 1, .c (.str ⟨#[]⟩), .nil 3 1]) := rfl
theorem tt52 : tt 52 = some (.strct [⟨0, 1, false⟩, ⟨1, 1, false⟩] 2 [.c (.str ⟨#[]⟩), .nil 9 1]) := rfl
theorem tt54 : tt 54 = some (.strct [⟨0, 2, true⟩, ⟨2, 1, false⟩, ⟨3, 1, false⟩] 4 [.c (.str ⟨#[]⟩), .nil 9 1, .c (.str ⟨#[]⟩), .nil 3 1]) := rfl
theorem tt58 : tt 58 = some (.slice 4 1 1 [.c (.bool false)]) := rfl
theorem tt72 : tt 72 = some (.strct [⟨0, 1, false⟩, ⟨1, 1, false⟩, ⟨2, 1, false⟩] 3 [.nil 5 1, .c (.int .i64 0), .c (.int .i64 0)]) := rfl
theorem tt79 : tt 79 = some (.atom (.c (.int .u64 0))) := rfl
theorem tt90 : tt 90 = some (.atom (.c (.int .u32 0))) := rfl
theorem tt92 : tt 92 = some (.atom (.c (.int .u64 0))) := rfl
def eStrs (l : List ByteArray) : List (List CT) := l.map fun s => [.str s]
def eInts (l : List Int) : List (List CT) := l.map fun n => [.int .i64 n]
def eBools (l : List Bool) : List (List CT) := l.map fun b => [.bool b]
def eBytes (l : List Int) : List (List CT) := l.map fun n => [.int .u8 n]
theorem eStrs_len (l) : (eStrs l).length = l.length := by simp [eStrs]
theorem eStrs_flat (l) : flatEs (eStrs l) = true := by simp [eStrs, flatEs, CT.flat]
theorem eStrs_at {l} {k : Nat} {x} (h : l[k]? = some x) : (eStrs l)[k]? = some [.str x] := by simp [eStrs, h]
theorem eStrs_set (l) (k : Nat) (x) : (eStrs l).set k [.str x] = eStrs (l.set k x) := by simp [eStrs, List.map_set]
theorem eStrs_rep (n x) : List.replicate n [.str x] = eStrs (List.replicate n x) := by simp [eStrs]
theorem eStrs_snoc1 (l x) : eStrs l ++ [[.str x]] = eStrs (l ++ [x]) := by simp [eStrs]
theorem eStrs_snoc (l x) : eStrs l ++ eStrs [x] = eStrs (l ++ [x]) := by simp [eStrs]
theorem eInts_len (l) : (eInts l).length = l.length := by simp [eInts]
theorem eInts_flat (l) : flatEs (eInts l) = true := by simp [eInts, flatEs, CT.flat]
theorem eInts_at {l} {k : Nat} {x} (h : l[k]? = some x) : (eInts l)[k]? = some [.int .i64 x] := by simp [eInts, h]
theorem eInts_set (l) (k : Nat) (x) : (eInts l).set k [.int .i64 x] = eInts (l.set k x) := by simp [eInts, List.map_set]
theorem eInts_rep (n x) : List.replicate n [.int .i64 x] = eInts (List.replicate n x) := by simp [eInts]
theorem eInts_snoc1 (l x) : eInts l ++ [[.int .i64 x]] = eInts (l ++ [x]) := by simp [eInts]
theorem eInts_snoc (l x) : eInts l ++ eInts [x] = eInts (l ++ [x]) := by simp [eInts]
theorem eBools_len (l) : (eBools l).length = l.length := by simp [eBools]
theorem eBools_flat (l) : flatEs (eBools l) = true := by simp [eBools, flatEs, CT.flat]
theorem eBools_at {l} {k : Nat} {x} (h : l[k]? = some x) : (eBools l)[k]? = some [.bool x] := by simp [eBools, h]
theorem eBools_set (l) (k : Nat) (x) : (eBools l).set k [.bool x] = eBools (l.set k x) := by simp [eBools, List.map_set]
theorem eBools_rep (n x) : List.replicate n [.bool x] = eBools (List.replicate n x) := by simp [eBools]
theorem eBools_snoc1 (l x) : eBools l ++ [[.bool x]] = eBools (l ++ [x]) := by simp [eBools]
theorem eBools_snoc (l x) : eBools l ++ eBools [x] = eBools (l ++ [x]) := by simp [eBools]
theorem eBytes_len (l) : (eBytes l).length = l.length := by simp [eBytes]
theorem eBytes_flat (l) : flatEs (eBytes l) = true := by simp [eBytes, flatEs, CT.flat]
theorem eBytes_at {l} {k : Nat} {x} (h : l[k]? = some x) : (eBytes l)[k]? = some [.int .u8 x] := by simp [eBytes, h]
theorem eBytes_set (l) (k : Nat) (x) : (eBytes l).set k [.int .u8 x] = eBytes (l.set k x) := by simp [eBytes, List.map_set]
theorem eBytes_rep (n x) : List.replicate n [.int .u8 x] = eBytes (List.replicate n x) := by simp [eBytes]
theorem eBytes_snoc1 (l x) : eBytes l ++ [[.int .u8 x]] = eBytes (l ++ [x]) := by simp [eBytes]
theorem eBytes_snoc (l x) : eBytes l ++ eBytes [x] = eBytes (l ++ [x]) := by simp [eBytes]
def eFact (x : FactD) : List CT := [.str x.rel, .sl 9 1 (eStrs x.args)]
def eFactS (l : List FactD) : List (List CT) := l.map eFact
theorem eFactS_len (l) : (eFactS l).length = l.length := by simp [eFactS]
theorem eFactS_at {l} {k : Nat} {x} (h : l[k]? = some x) : (eFactS l)[k]? = some (eFact x) := by simp [eFactS, h]
theorem eFactS_snoc1 (l x) : eFactS l ++ [eFact x] = eFactS (l ++ [x]) := by simp [eFactS]
def ePattern (x : PatternD) : List CT := [.str x.rel, .sl 9 1 (eStrs x.args)]
def ePatternS (l : List PatternD) : List (List CT) := l.map ePattern
theorem ePatternS_len (l) : (ePatternS l).length = l.length := by simp [ePatternS]
theorem ePatternS_at {l} {k : Nat} {x} (h : l[k]? = some x) : (ePatternS l)[k]? = some (ePattern x) := by simp [ePatternS, h]
theorem ePatternS_snoc1 (l x) : ePatternS l ++ [ePattern x] = ePatternS (l ++ [x]) := by simp [ePatternS]
def ePair (x : PairD) : List CT := [.str x.var, .str x.value]
def ePairS (l : List PairD) : List (List CT) := l.map ePair
theorem ePairS_len (l) : (ePairS l).length = l.length := by simp [ePairS]
theorem ePairS_at {l} {k : Nat} {x} (h : l[k]? = some x) : (ePairS l)[k]? = some (ePair x) := by simp [ePairS, h]
theorem ePairS_snoc1 (l x) : ePairS l ++ [ePair x] = ePairS (l ++ [x]) := by simp [ePairS]
def eCond (x : CondD) : List CT := [.int .i64 x.kind, .str x.pattern.rel, .sl 9 1 (eStrs x.pattern.args), .str x.left, .str x.right]
def eCondS (l : List CondD) : List (List CT) := l.map eCond
theorem eCondS_len (l) : (eCondS l).length = l.length := by simp [eCondS]
theorem eCondS_at {l} {k : Nat} {x} (h : l[k]? = some x) : (eCondS l)[k]? = some (eCond x) := by simp [eCondS, h]
theorem eCondS_snoc1 (l x) : eCondS l ++ [eCond x] = eCondS (l ++ [x]) := by simp [eCondS]
def eAction (x : ActionD) : List CT := [.int .i64 x.kind, .str x.pattern.rel, .sl 9 1 (eStrs x.pattern.args)]
def eActionS (l : List ActionD) : List (List CT) := l.map eAction
theorem eActionS_len (l) : (eActionS l).length = l.length := by simp [eActionS]
theorem eActionS_at {l} {k : Nat} {x} (h : l[k]? = some x) : (eActionS l)[k]? = some (eAction x) := by simp [eActionS, h]
theorem eActionS_snoc1 (l x) : eActionS l ++ [eAction x] = eActionS (l ++ [x]) := by simp [eActionS]
def eAlpha (x : AlphaD) : List CT := [.str x.shape.rel, .sl 9 1 (eStrs x.shape.args), .sl 52 2 (eFactS x.facts)]
def eAlphaS (l : List AlphaD) : List (List CT) := l.map eAlpha
theorem eAlphaS_len (l) : (eAlphaS l).length = l.length := by simp [eAlphaS]
theorem eAlphaS_at {l} {k : Nat} {x} (h : l[k]? = some x) : (eAlphaS l)[k]? = some (eAlpha x) := by simp [eAlphaS, h]
theorem eAlphaS_snoc1 (l x) : eAlphaS l ++ [eAlpha x] = eAlphaS (l ++ [x]) := by simp [eAlphaS]
def eStamp (x : StampD) : List CT := [.str x.fact.rel, .sl 9 1 (eStrs x.fact.args), .int .i64 x.time]
def eStampS (l : List StampD) : List (List CT) := l.map eStamp
theorem eStampS_len (l) : (eStampS l).length = l.length := by simp [eStampS]
theorem eStampS_at {l} {k : Nat} {x} (h : l[k]? = some x) : (eStampS l)[k]? = some (eStamp x) := by simp [eStampS, h]
theorem eStampS_snoc1 (l x) : eStampS l ++ [eStamp x] = eStampS (l ++ [x]) := by simp [eStampS]
def eFiring (x : FiringD) : List CT := [.str x.rule, .sl 3 1 (eInts x.times)]
def eFiringS (l : List FiringD) : List (List CT) := l.map eFiring
theorem eFiringS_len (l) : (eFiringS l).length = l.length := by simp [eFiringS]
theorem eFiringS_at {l} {k : Nat} {x} (h : l[k]? = some x) : (eFiringS l)[k]? = some (eFiring x) := by simp [eFiringS, h]
theorem eFiringS_snoc1 (l x) : eFiringS l ++ [eFiring x] = eFiringS (l ++ [x]) := by simp [eFiringS]
def eEvent (x : EventD) : List CT := [.int .i64 x.kind, .str x.rule, .str x.fact.rel, .sl 9 1 (eStrs x.fact.args)]
def eEventS (l : List EventD) : List (List CT) := l.map eEvent
theorem eEventS_len (l) : (eEventS l).length = l.length := by simp [eEventS]
theorem eEventS_at {l} {k : Nat} {x} (h : l[k]? = some x) : (eEventS l)[k]? = some (eEvent x) := by simp [eEventS, h]
theorem eEventS_snoc1 (l x) : eEventS l ++ [eEvent x] = eEventS (l ++ [x]) := by simp [eEventS]
def eReason (x : ReasonD) : List CT := [.int .i64 x.for_, .sl 3 1 (eInts x.inn), .sl 3 1 (eInts x.outs)]
def eReasonS (l : List ReasonD) : List (List CT) := l.map eReason
theorem eReasonS_len (l) : (eReasonS l).length = l.length := by simp [eReasonS]
theorem eReasonS_at {l} {k : Nat} {x} (h : l[k]? = some x) : (eReasonS l)[k]? = some (eReason x) := by simp [eReasonS, h]
theorem eReasonS_snoc1 (l x) : eReasonS l ++ [eReason x] = eReasonS (l ++ [x]) := by simp [eReasonS]
def eStep (x : StepD) : List CT := [.str x.fact.rel, .sl 9 1 (eStrs x.fact.args), .str x.rule, .sl 3 1 (eInts x.uses)]
def eStepS (l : List StepD) : List (List CT) := l.map eStep
theorem eStepS_len (l) : (eStepS l).length = l.length := by simp [eStepS]
theorem eStepS_at {l} {k : Nat} {x} (h : l[k]? = some x) : (eStepS l)[k]? = some (eStep x) := by simp [eStepS, h]
theorem eStepS_snoc1 (l x) : eStepS l ++ [eStep x] = eStepS (l ++ [x]) := by simp [eStepS]
def eMiss (x : MissD) : List CT := [.str x.rule, .int .i64 x.done, .str x.cond]
def eMissS (l : List MissD) : List (List CT) := l.map eMiss
theorem eMissS_len (l) : (eMissS l).length = l.length := by simp [eMissS]
theorem eMissS_at {l} {k : Nat} {x} (h : l[k]? = some x) : (eMissS l)[k]? = some (eMiss x) := by simp [eMissS, h]
theorem eMissS_snoc1 (l x) : eMissS l ++ [eMiss x] = eMissS (l ++ [x]) := by simp [eMissS]
end Go.Proofs.Ytfmplnebdldpdaa
