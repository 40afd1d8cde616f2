/- What the law files' mark.. functions make of their data. Printed by gen.py. -/
import Derived.Test.YtfmplnebdldpdaaTypes
import Derived.Test.YtfmplnebdldpdaaMText
namespace Go.Proofs.Ytfmplnebdldpdaa
open Go.RowKit

def mTx (k : Int) : ByteArray := mText k.toNat
theorem markText_int (k : Int) (w : World) (h0 : 1 ≤ k) (h1 : k ≤ 4611686018427387904) :
    Calls Try.prog 40 #[.int .i64 k] w fun e w' => e = .returned (.string (mTx k)) ∧ Below w.heap.size w w' := by
  obtain ⟨n, rfl⟩ := Int.eq_ofNat_of_zero_le (show 0 ≤ k by omega)
  exact markText_any n w (by omega) (by omega)
theorem mTx_size (k : Int) (h : k ≤ 4611686018427387904) : (mTx k).size ≤ 9223372036854775807 := mText_size _ (by omega)
def mkStringS : Int → List ByteArray → List ByteArray
  | _, [] => []
  | k, _ :: r => mTx k :: mkStringS (k + 1) r
def mkIntS : Int → List Int → List Int
  | _, [] => []
  | k, _ :: r => k :: mkIntS (k + 1) r
def mkBoolS : Int → List Bool → List Bool
  | _, [] => []
  | k, _ :: r => decide (k % 3 = 0) :: mkBoolS (k + 1) r
def nextStringS (k : Int) (l : List ByteArray) : Int := k + l.length
def nextIntS (k : Int) (l : List Int) : Int := k + l.length
def nextBoolS (k : Int) (l : List Bool) : Int := k + l.length
theorem mkStringS_len (k : Int) (l : List ByteArray) : (mkStringS k l).length = l.length := by induction l generalizing k with | nil => rfl | cons x r ih => simp [mkStringS, ih]
theorem mkIntS_len (k : Int) (l : List Int) : (mkIntS k l).length = l.length := by induction l generalizing k with | nil => rfl | cons x r ih => simp [mkIntS, ih]
theorem mkBoolS_len (k : Int) (l : List Bool) : (mkBoolS k l).length = l.length := by induction l generalizing k with | nil => rfl | cons x r ih => simp [mkBoolS, ih]

theorem nextStringS_ge (k : Int) (l : List ByteArray) : k ≤ nextStringS k l := by unfold nextStringS; omega
theorem nextIntS_ge (k : Int) (l : List Int) : k ≤ nextIntS k l := by unfold nextIntS; omega
theorem nextStringS_le (k : Int) (l : List ByteArray) : nextStringS k l ≤ k + 16 * costStrs l := by unfold nextStringS costStrs; omega
theorem nextIntS_le (k : Int) (l : List Int) : nextIntS k l ≤ k + 16 * l.length := by unfold nextIntS; omega
theorem nextBoolS_le (k : Int) (l : List Bool) : nextBoolS k l ≤ k + 16 * l.length := by unfold nextBoolS; omega
theorem nextBoolS_ge (k : Int) (l : List Bool) : k ≤ nextBoolS k l := by unfold nextBoolS; omega

def mkFact (k : Int) (x : FactD) : FactD := ⟨mTx (k), mkStringS (k + 1) x.args⟩
def nextFact (k : Int) (x : FactD) : Int := nextStringS (k + 1) x.args
def mkFactS : Int → List FactD → List FactD
  | _, [] => []
  | k, x :: r => mkFact k x :: mkFactS (nextFact k x) r
def nextFactS : Int → List FactD → Int
  | k, [] => k
  | k, x :: r => nextFactS (nextFact k x) r
theorem mkFactS_len (k : Int) (l : List FactD) : (mkFactS k l).length = l.length := by induction l generalizing k with | nil => rfl | cons x r ih => simp [mkFactS, ih]
theorem nextFact_ge (k : Int) (x : FactD) : k ≤ nextFact k x := by
  unfold nextFact
  have := nextStringS_ge (k + 1) x.args
  omega
theorem nextFactS_ge (k : Int) (l : List FactD) : k ≤ nextFactS k l := by
  induction l generalizing k with
  | nil => exact Int.le_refl _
  | cons x r ih => exact Int.le_trans (nextFact_ge k x) (ih _)
theorem nextFact_le (k : Int) (x : FactD) : nextFact k x ≤ k + 1 + 16 * costFact x := by
  unfold nextFact
  have := nextStringS_le (k + 1) x.args
  simp only [costFact]
  omega
theorem nextFactS_le (k : Int) (l : List FactD) : nextFactS k l ≤ k + 16 * costFactS l := by
  induction l generalizing k with
  | nil => simp [nextFactS, costFactS]
  | cons x r ih =>
    have h1 := nextFact_le k x
    have h2 := ih (nextFact k x)
    simp only [nextFactS, costFactS, List.length_cons, List.map_cons, List.sum_cons] at h2 ⊢
    omega

def mkStep (k : Int) (x : StepD) : StepD := ⟨⟨mTx (k), mkStringS (k + 1) x.fact.args⟩, mTx (nextStringS (k + 1) x.fact.args), mkIntS (nextStringS (k + 1) x.fact.args + 1) x.uses⟩
def nextStep (k : Int) (x : StepD) : Int := nextIntS (nextStringS (k + 1) x.fact.args + 1) x.uses
def mkStepS : Int → List StepD → List StepD
  | _, [] => []
  | k, x :: r => mkStep k x :: mkStepS (nextStep k x) r
def nextStepS : Int → List StepD → Int
  | k, [] => k
  | k, x :: r => nextStepS (nextStep k x) r
theorem mkStepS_len (k : Int) (l : List StepD) : (mkStepS k l).length = l.length := by induction l generalizing k with | nil => rfl | cons x r ih => simp [mkStepS, ih]
theorem nextStep_ge (k : Int) (x : StepD) : k ≤ nextStep k x := by
  unfold nextStep
  have := nextStringS_ge (k + 1) x.fact.args
  have := nextIntS_ge (nextStringS (k + 1) x.fact.args + 1) x.uses
  omega
theorem nextStepS_ge (k : Int) (l : List StepD) : k ≤ nextStepS k l := by
  induction l generalizing k with
  | nil => exact Int.le_refl _
  | cons x r ih => exact Int.le_trans (nextStep_ge k x) (ih _)
theorem nextStep_le (k : Int) (x : StepD) : nextStep k x ≤ k + 2 + 16 * costStep x := by
  unfold nextStep
  have := nextStringS_le (k + 1) x.fact.args
  have := nextIntS_le (nextStringS (k + 1) x.fact.args + 1) x.uses
  simp only [costStep, costFact]
  omega
theorem nextStepS_le (k : Int) (l : List StepD) : nextStepS k l ≤ k + 16 * costStepS l := by
  induction l generalizing k with
  | nil => simp [nextStepS, costStepS]
  | cons x r ih =>
    have h1 := nextStep_le k x
    have h2 := ih (nextStep k x)
    simp only [nextStepS, costStepS, List.length_cons, List.map_cons, List.sum_cons] at h2 ⊢
    omega

end Go.Proofs.Ytfmplnebdldpdaa
