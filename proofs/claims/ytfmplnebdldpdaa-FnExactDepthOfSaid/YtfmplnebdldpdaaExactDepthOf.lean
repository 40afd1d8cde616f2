/- The program's DepthOf returns what the reference's returns. -/
import Derived.Test.YtfmplnebdldpdaaDepth
import Derived.Test.YtfmplnebdldpdaaSz
import Derived.Test.YtfmplnebdldpdaaTo
import Derived.Test.YtfmplnebdldpdaaEq
namespace Go.Proofs.Ytfmplnebdldpdaa
open Go.RowKit

set_option maxHeartbeats 4000000 in
theorem FnExactDepthOf_walk (A : Option Addr) (c : Nat) (ds : List StepD) (L : List Nat) (w : World) (hm : ds.length ≤ 9223372036854775807) (h : Sli cStep w A ds L) :
    Calls Try.prog 3 #[.slice A ds.length c] w fun e w' => e = .returned (.bool true) ∧ Below w.heap.size w w' := by
  have H := Lib.hid h
  clear h
  go_enter Try.func3, Try.ntmps3
  go_wp2_with fail
  refine (szStepS_any A _ c ds L _ w rfl hm (by omega) (by omega) H.out).mono ?_
  rintro e w1 ⟨rfl, hb1⟩
  have B1 := Lib.hid hb1
  clear hb1
  by_cases hz : (costStepS ds : Int) ≤ 1048576
  rotate_left
  · rw [szR_neg hz]
    go_wp2
    go_ret
    exact ⟨rfl, B1.out⟩
  rw [szR_pos hz]
  have hz' : costStepS ds ≤ 1048576 := by omega
  have hl : ds.length ≤ 1048576 := by simp only [costStepS] at hz'; omega
  have hz0 : ¬ ((1048576 : Int) - costStepS ds < 0) := by omega
  go_wp2_with fail
  refine (toStepS_any A _ c ds L _ rfl hz' (H.out.below B1.out)).mono ?_
  rintro e w2 ⟨v2, rfl, a2⟩
  obtain ⟨A2, c2, rfl⟩ := a2.shape
  have B2 := Lib.hid (B1.out.trans (a2.below.mono B1.out.size))
  obtain ⟨L2, g2⟩ := a2.got
  have S2 := Lib.hid (sliceC_out g2.rep).2.2
  clear a2 g2 B1
  go_wp2_with fail
  refine (sDepthOf_any A2 _ c2 ds L2 _ rfl hl S2.out).mono ?_
  rintro e w3 ⟨rfl, hb3⟩
  have B3 := Lib.hid (B2.out.trans (hb3.mono B2.out.size))
  clear hb3 B2 S2
  go_wp2_with fail
  refine (toStepS_any A _ c ds L _ rfl hz' (H.out.below B3.out)).mono ?_
  rintro e w4 ⟨v4, rfl, a4⟩
  obtain ⟨A4, c4, rfl⟩ := a4.shape
  have B4 := Lib.hid (B3.out.trans (a4.below.mono B3.out.size))
  obtain ⟨L4, g4⟩ := a4.got
  have S4 := Lib.hid (sliceC_out g4.rep).2.2
  clear a4 g4 B3
  go_wp2_with fail
  refine (iDepthOf_any A4 _ c4 ds L4 _ rfl hl S4.out).mono ?_
  rintro e w5 ⟨rfl, hb5⟩
  have B5 := Lib.hid (B4.out.trans (hb5.mono B4.out.size))
  have S5 := Lib.hid (S4.out.below hb5)
  clear hb5 B4 S4
  have hne : ((depthOf ds) != (depthOf ds)) = false := by simp
  go_wp2_with fail
  refine (toStepS_any A _ c ds L _ rfl hz' (H.out.below B5.out)).mono ?_
  rintro e w6 ⟨v6, rfl, a6⟩
  obtain ⟨A6, c6, rfl⟩ := a6.shape
  have B6 := Lib.hid (B5.out.trans (a6.below.mono B5.out.size))
  have S4 := Lib.hid (S5.out.below a6.below)
  obtain ⟨L6, g6⟩ := a6.got
  have S6 := Lib.hid (sliceC_out g6.rep).2.2
  clear a6 g6 B5 S5
  go_wp2_with fail
  refine (eqStepS_any A4 A6 _ c4 c6 ds L4 L6 _ rfl hm S4.out S6.out).mono ?_
  rintro e w7 ⟨rfl, hb7⟩
  have B7 := Lib.hid (B6.out.trans (hb7.mono B6.out.size))
  clear hb7
  go_wp2_with fail
  go_ret
  exact ⟨rfl, B7.out⟩

end Go.Proofs.Ytfmplnebdldpdaa
