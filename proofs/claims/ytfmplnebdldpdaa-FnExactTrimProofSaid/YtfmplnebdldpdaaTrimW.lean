/- Contracts of TrimProof's parts. -/
import Derived.Test.YtfmplnebdldpdaaTrimP
namespace Go.Proofs.Ytfmplnebdldpdaa
open Go.Proofs.Try
set_option linter.unusedSimpArgs false
set_option maxRecDepth 10000
theorem s_l1In (x a b : Int) : Sound Try.prog 34 [(false, [.int .i64 x]), (false, [.int .i64 a]), (false, [.int .i64 b])] [(false, [.bool (decide (a ≤ x ∧ x ≤ b))])] := by
  refine fn_sound htt hmix Try.func34 (by kernel_rfl) rfl (by kernel_rfl) (by kernel_rfl) ?_
  by_cases h : a ≤ x
  · simp only [fnS, f34, argSt, tt2, tt3, tt4, tt5, tt9, tt21, tt22, tt25, tt32, tt37, tt47, tt49, tt51, tt52, tt54, tt58, tt72, tt79, tt90, tt92, h, go_sem, Nat.reduceAdd, Nat.reduceMul, Nat.reduceEqDiff, Nat.reduceLeDiff, Nat.reduceLT, Nat.reduceBEq, reduceCtorEq, reduceIte]
  · simp only [fnS, f34, argSt, tt2, tt3, tt4, tt5, tt9, tt21, tt22, tt25, tt32, tt37, tt47, tt49, tt51, tt52, tt54, tt58, tt72, tt79, tt90, tt92, h, go_sem, Nat.reduceAdd, Nat.reduceMul, Nat.reduceEqDiff, Nat.reduceLeDiff, Nat.reduceLT, Nat.reduceBEq, reduceCtorEq, reduceIte]
theorem s_l1Texts (l : List ByteArray) (hl : l.length ≤ 1073741824) : Sound Try.prog 53 [(false, [(.sl 9 1 (eStrs l))])] [(false, [(.sl 9 1 (eStrs l))])] := by
  refine fn_sound htt hmix Try.func53 (by kernel_rfl) rfl (by kernel_rfl) (by kernel_rfl) ?_
  simp only [fnS, f53, argSt, tt2, tt3, tt4, tt5, tt9, tt21, tt22, tt25, tt32, tt37, tt47, tt49, tt51, tt52, tt54, tt58, tt72, tt79, tt90, tt92, eStrs_len, eStrs_flat, hl, go_sem, Nat.reduceAdd, Nat.reduceMul, Nat.reduceEqDiff, Nat.reduceLeDiff, Nat.reduceLT, Nat.reduceBEq, reduceCtorEq, reduceIte]
theorem i_copyTexts (l : List ByteArray) (hl : l.length ≤ 1073741824) : Sound Try.prog 54 [(false, [(.sl 9 1 (eStrs l))])] [(false, [(.sl 9 1 (eStrs l))])] := by
  refine fn_sound htt hmix Try.func54 (by kernel_rfl) rfl (by kernel_rfl) (by kernel_rfl) ?_
  simp only [fnS, f54, argSt, tt2, tt3, tt4, tt5, tt9, tt21, tt22, tt25, tt32, tt37, tt47, tt49, tt51, tt52, tt54, tt58, tt72, tt79, tt90, tt92, eStrs_len, eStrs_flat, hl, go_sem, Nat.reduceAdd, Nat.reduceMul, Nat.reduceEqDiff, Nat.reduceLeDiff, Nat.reduceLT, Nat.reduceBEq, reduceCtorEq, reduceIte]
theorem s_l2Copy (f : FactD) (hl : f.args.length ≤ 1073741824) : Sound Try.prog 38 [(true, eFact f)] [(true, eFact f)] := by
  refine fn_sound htt hmix Try.func38 (by kernel_rfl) rfl (by kernel_rfl) (by kernel_rfl) ?_
  simp only [fnS, f38, argSt, tt2, tt3, tt4, tt5, tt9, tt21, tt22, tt25, tt32, tt37, tt47, tt49, tt51, tt52, tt54, tt58, tt72, tt79, tt90, tt92, eFact, go_sem, Nat.reduceAdd, Nat.reduceMul, Nat.reduceEqDiff, Nat.reduceLeDiff, Nat.reduceLT, Nat.reduceBEq, reduceCtorEq, reduceIte]
  refine ⟨_, s_l1Texts _ hl, ?_⟩
  simp only [tt2, tt3, tt4, tt5, tt9, tt21, tt22, tt25, tt32, tt37, tt47, tt49, tt51, tt52, tt54, tt58, tt72, tt79, tt90, tt92, go_sem, Nat.reduceAdd, Nat.reduceMul, Nat.reduceEqDiff, Nat.reduceLeDiff, Nat.reduceLT, Nat.reduceBEq, reduceCtorEq, reduceIte]
theorem i_copyFact (f : FactD) (hl : f.args.length ≤ 1073741824) : Sound Try.prog 39 [(true, eFact f)] [(true, eFact f)] := by
  refine fn_sound htt hmix Try.func39 (by kernel_rfl) rfl (by kernel_rfl) (by kernel_rfl) ?_
  simp only [fnS, f39, argSt, tt2, tt3, tt4, tt5, tt9, tt21, tt22, tt25, tt32, tt37, tt47, tt49, tt51, tt52, tt54, tt58, tt72, tt79, tt90, tt92, eFact, go_sem, Nat.reduceAdd, Nat.reduceMul, Nat.reduceEqDiff, Nat.reduceLeDiff, Nat.reduceLT, Nat.reduceBEq, reduceCtorEq, reduceIte]
  refine ⟨_, i_copyTexts _ hl, ?_⟩
  simp only [tt2, tt3, tt4, tt5, tt9, tt21, tt22, tt25, tt32, tt37, tt47, tt49, tt51, tt52, tt54, tt58, tt72, tt79, tt90, tt92, go_sem, Nat.reduceAdd, Nat.reduceMul, Nat.reduceEqDiff, Nat.reduceLeDiff, Nat.reduceLT, Nat.reduceBEq, reduceCtorEq, reduceIte]
end Go.Proofs.Ytfmplnebdldpdaa
