/- TrimProof in the form that the exact law asks for. -/
import Derived.Test.YtfmplnebdldpdaaTrimI
import Derived.Test.YtfmplnebdldpdaaBE
import Derived.Test.YtfmplnebdldpdaaOpen
namespace Go.Proofs.Ytfmplnebdldpdaa
open Go.RowKit
theorem sum_mem {l : List Nat} {x : Nat} (h : x ∈ l) : x ≤ l.sum := by
  induction l with
  | nil => simp at h
  | cons a r ih =>
    rcases List.mem_cons.1 h with h | h
    · subst h; simp
    · have := ih h; simp; omega
theorem stepsOk {l : List StepD} (h : costStepS l ≤ 1048576) : StepsOk l := by
  rw [costStepS] at h
  refine ⟨by omega, fun s ms => ?_⟩
  have h1 := sum_mem (List.mem_map_of_mem (f := costStep) ms)
  have h2 : s.uses.length + s.fact.args.length ≤ costStep s := by simp only [costStep, costFact, costStrs]; omega
  omega
theorem sTrimProof_std (w : World) (A : Option Addr) (c : Nat) (x : List StepD) (L : List Nat) (cz : costStepS x ≤ 1048576) (h : (sliceC cStep).rep w [.slice A x.length c] x L) (k : Int) (wf : wfInt k) :
    Calls Try.prog 14 #[.slice A x.length c, .int .i64 k] w (GivesS cStep 54 w (trimOf x k)) :=
  Sound.givesS (c := cStep) (g := eStep) (ds := trimOf x k) (s_trim x k wf.1 (stepsOk cz)) encStep (vs := [_, _]) ⟨arg_sl encStep _ h, arg_int _ _, trivial⟩
theorem iTrimProof_std (w : World) (A : Option Addr) (c : Nat) (x : List StepD) (L : List Nat) (cz : costStepS x ≤ 1048576) (h : (sliceC cStep).rep w [.slice A x.length c] x L) (k : Int) (wf : wfInt k) :
    Calls Try.prog 15 #[.slice A x.length c, .int .i64 k] w (GivesS cStep 54 w (trimOf x k)) :=
  Sound.givesS (c := cStep) (g := eStep) (ds := trimOf x k) (i_trim x k (stepsOk cz)) encStep (vs := [_, _]) ⟨arg_sl encStep _ h, arg_int _ _, trivial⟩
theorem reStep_cost (n : List Bool) (i : Nat) (s : StepD) : costStep (reStep n i s) = costStep s := by simp [costStep, reStep]
theorem trimGo_cost (n : List Bool) (l : List StepD) : ∀ i, costStepS (trimGo n l i) ≤ costStepS (l.take i)
  | 0 => by simp [trimGo]
  | i + 1 => by
    have ih := trimGo_cost n l i
    rw [trimGo, List.take_add_one]
    have h2 : costStepS (l.take i ++ l[i]?.toList) = costStepS (l.take i) + costStepS l[i]?.toList := by simp [costStepS]; omega
    rw [h2]
    split
    · split
      · rename_i s hs
        rw [hs]
        have : costStepS (trimGo n l i ++ [reStep n i s]) = costStepS (trimGo n l i) + 1 + costStep s := by simp [costStepS, reStep_cost]; omega
        rw [this]
        simp [costStepS] at ih ⊢
        omega
      · omega
    · omega
theorem trimOf_cost (l : List StepD) (k : Int) : costStepS (trimOf l k) ≤ costStepS l := by
  rw [trimOf]
  split
  · refine Nat.le_trans (trimGo_cost _ _ _) ?_
    conv => rhs; rw [← List.take_append_drop (k.toNat + 1) l]
    simp only [costStepS, List.length_append, List.map_append, List.sum_append]
    omega
  · simp [costStepS]
theorem trimOf_len (l : List StepD) (k : Int) (h : costStepS l ≤ 1048576) : (trimOf l k).length ≤ 1048576 ∧ costStepS (trimOf l k) ≤ 1048576 := by
  have h1 := trimOf_cost l k
  have h2 : (trimOf l k).length ≤ costStepS (trimOf l k) := by simp [costStepS]
  omega
end Go.Proofs.Ytfmplnebdldpdaa
