/- The program's TrimProof returns what the reference's returns. Printed by gen.py. -/
import Derived.Test.YtfmplnebdldpdaaTrimStd
import Derived.Test.YtfmplnebdldpdaaSz
import Derived.Test.YtfmplnebdldpdaaTo
import Derived.Test.YtfmplnebdldpdaaEq
import Derived.Test.YtfmplnebdldpdaaMark
import Derived.Test.YtfmplnebdldpdaaHeld
import Derived.Test.YtfmplnebdldpdaaOpen
import Derived.Outline
import Derived.WalkSpells
import Derived.StillTailTactics
namespace Go.Proofs.Ytfmplnebdldpdaa
open Go.RowKit

set_option maxRecDepth 100000 in
set_option maxHeartbeats 8000000 in
theorem FnExactTrimProof_walk (w : World) (A_aSteps : Option Addr) (c_aSteps : Nat) (aSteps : List StepD) (L_aSteps : List Nat) (ln_aSteps : aSteps.length ≤ 9223372036854775807) (h_aSteps : Sli cStep w A_aSteps aSteps L_aSteps) (aK : Int) (wf_aK : wfInt aK) :
    Calls Try.prog 4 #[.slice A_aSteps aSteps.length c_aSteps, .int .i64 aK] w fun e w' => e = .returned (.bool true) ∧ Below w.heap.size w w' := by
  have H_aSteps := Lib.hid h_aSteps
  clear h_aSteps
  go_enter Try.func4, Try.ntmps4
  go_wp2_with fail
  refine (szStepS_any A_aSteps _ c_aSteps aSteps L_aSteps _ _ rfl ln_aSteps (by omega) (by omega) (H_aSteps.out.below (Below.refl w.heap.size w))).mono ?_
  rintro e w1 ⟨rfl, hb⟩
  have B1 := Lib.hid ((Below.refl w.heap.size w).trans (hb.mono (Below.refl w.heap.size w).size))
  have sz1 := hb.size
  clear hb
  by_cases cc_aSteps : ((costStepS aSteps : Nat) : Int) ≤ 1048576
  rotate_left
  · rw [szR_neg cc_aSteps]
    go_wp2
    go_ret
    exact ⟨rfl, B1.out⟩
  rw [szR_pos cc_aSteps]
  have cz_aSteps : costStepS aSteps ≤ 1048576 := by omega
  have cl_aSteps : aSteps.length ≤ 1048576 := by have := cz_aSteps; simp only [costStepS] at this; omega
  have nn_aSteps : ¬ (1048576 - ((costStepS aSteps : Nat) : Int) < 0) := by omega
  obtain ⟨R0, hR0⟩ : ∃ R : List StepD, R = trimOf aSteps aK := ⟨_, rfl⟩
  have HR0 := Lib.hid hR0
  have rl : R0.length ≤ 1048576 ∧ costStepS R0 ≤ 1048576 := by rw [hR0]; exact trimOf_len aSteps aK cz_aSteps
  clear hR0
  go_wp2_with fail
  refine (toStepS_any A_aSteps _ c_aSteps aSteps L_aSteps _ rfl cz_aSteps (H_aSteps.out.below B1.out)).mono ?_
  rintro e w2 ⟨v, rfl, acc⟩
  obtain ⟨A_t1aSteps, c_t1aSteps, rfl⟩ := acc.shape
  have hb := acc.below
  obtain ⟨L_t1aSteps, gt⟩ := acc.got
  have B2 := Lib.hid (B1.out.trans (hb.mono B1.out.size))
  have sz2 := hb.size
  clear B1
  have V_t1aSteps := Lib.hid gt
  have ge_t1aSteps := Lib.hid gt.own.ge
  have lt_t1aSteps := Lib.hid gt.lt
  clear gt hb acc
  go_wp2_with fail
  refine (sTrimProof_std _ A_t1aSteps c_t1aSteps aSteps L_t1aSteps cz_aSteps V_t1aSteps.out.rep aK wf_aK).mono ?_
  rintro e w3 ⟨v, rfl, acc⟩
  rw [← HR0.out] at acc
  obtain ⟨A_w0, c_w0, rfl⟩ := acc.shape
  have hb := acc.below
  obtain ⟨L_w0, gt⟩ := acc.got
  have B3 := Lib.hid (B2.out.trans (hb.mono B2.out.size))
  have sz3 := hb.size
  have V_t1aSteps := Lib.hid (V_t1aSteps.out.later hb)
  clear B2
  have V_w0 := Lib.hid gt
  have ge_w0 := Lib.hid gt.own.ge
  have lt_w0 := Lib.hid gt.lt
  clear gt hb acc
  clear V_t1aSteps
  go_wp2_with fail
  refine (toStepS_any A_aSteps _ c_aSteps aSteps L_aSteps _ rfl cz_aSteps (H_aSteps.out.below B3.out)).mono ?_
  rintro e w4 ⟨v, rfl, acc⟩
  obtain ⟨A_x0, c_x0, rfl⟩ := acc.shape
  have hb := acc.below
  obtain ⟨L_x0, gt⟩ := acc.got
  have B4 := Lib.hid (B3.out.trans (hb.mono B3.out.size))
  have sz4 := hb.size
  have V_w0 := Lib.hid (V_w0.out.later hb)
  clear B3
  have V_x0 := Lib.hid gt
  have ge_x0 := Lib.hid gt.own.ge
  have lt_x0 := Lib.hid gt.lt
  clear gt hb acc
  go_wp2_with fail
  refine (iTrimProof_std _ A_x0 c_x0 aSteps L_x0 cz_aSteps V_x0.out.rep aK wf_aK).mono ?_
  rintro e w5 ⟨v, rfl, acc⟩
  rw [← HR0.out] at acc
  obtain ⟨A_g0, c_g0, rfl⟩ := acc.shape
  have hb := acc.below
  obtain ⟨L_g0, gt⟩ := acc.got
  have B5 := Lib.hid (B4.out.trans (hb.mono B4.out.size))
  have sz5 := hb.size
  have V_w0 := Lib.hid (V_w0.out.later hb)
  have V_x0 := Lib.hid (V_x0.out.later hb)
  clear B4
  have V_g0 := Lib.hid gt
  have ge_g0 := Lib.hid gt.own.ge
  have lt_g0 := Lib.hid gt.lt
  clear gt hb acc
  go_wp2_with fail
  refine (eqStepS_any A_g0 A_w0 _ c_g0 c_w0 _ L_g0 L_w0 _ rfl (by omega) (sliceC_out V_g0.out.rep).2.2 (sliceC_out V_w0.out.rep).2.2).mono ?_
  rintro e w6 ⟨rfl, hb⟩
  have B6 := Lib.hid (B5.out.trans (hb.mono B5.out.size))
  have sz6 := hb.size
  have V_w0 := Lib.hid (V_w0.out.later hb)
  have V_x0 := Lib.hid (V_x0.out.later hb)
  have V_g0 := Lib.hid (V_g0.out.later hb)
  clear B5
  clear hb
  go_wp2_with fail
  refine (toStepS_any A_aSteps _ c_aSteps aSteps L_aSteps _ rfl cz_aSteps (H_aSteps.out.below B6.out)).mono ?_
  rintro e w7 ⟨v, rfl, acc⟩
  obtain ⟨A_t6aSteps, c_t6aSteps, rfl⟩ := acc.shape
  have hb := acc.below
  obtain ⟨L_t6aSteps, gt⟩ := acc.got
  have B7 := Lib.hid (B6.out.trans (hb.mono B6.out.size))
  have sz7 := hb.size
  have V_w0 := Lib.hid (V_w0.out.later hb)
  have V_x0 := Lib.hid (V_x0.out.later hb)
  have V_g0 := Lib.hid (V_g0.out.later hb)
  clear B6
  have V_t6aSteps := Lib.hid gt
  have ge_t6aSteps := Lib.hid gt.own.ge
  have lt_t6aSteps := Lib.hid gt.lt
  clear gt hb acc
  go_wp2_with fail
  refine (eqStepS_any A_x0 A_t6aSteps _ c_x0 c_t6aSteps _ L_x0 L_t6aSteps _ rfl (by omega) (sliceC_out V_x0.out.rep).2.2 (sliceC_out V_t6aSteps.out.rep).2.2).mono ?_
  rintro e w8 ⟨rfl, hb⟩
  have B8 := Lib.hid (B7.out.trans (hb.mono B7.out.size))
  have sz8 := hb.size
  have V_w0 := Lib.hid (V_w0.out.later hb)
  have V_x0 := Lib.hid (V_x0.out.later hb)
  have V_g0 := Lib.hid (V_g0.out.later hb)
  have V_t6aSteps := Lib.hid (V_t6aSteps.out.later hb)
  clear B7
  clear hb
  clear V_t6aSteps
  have nl_x0_8 := nextStepS_le ((1 : Int)) aSteps
  have nb_x0_8 : nextStepS ((1 : Int)) aSteps ≤ 4611686018427387904 := by omega
  have ng_x0_8 := nextStepS_ge ((1 : Int)) aSteps
  go_wp2_with fail
  refine (markStepS_any A_x0 _ c_x0 aSteps L_x0 _ _ _ rfl (by omega) (by omega) (by omega) V_x0.out).mono ?_
  rintro e w9 ⟨rfl, gm, on⟩
  have B9 := Lib.hid (B8.out.trans (on.below B8.out.size (fun y m => by have := ge_x0.out y m; omega)))
  have sz9 := on.size
  have V_w0 := Lib.hid (V_w0.out.only on (fun y m m' => by have := lt_w0.out y m; have := ge_x0.out y m'; omega))
  have V_g0 := Lib.hid (V_g0.out.only on (fun y m m' => by have := ge_g0.out y m; have := lt_x0.out y m'; omega))
  clear B8
  have V_x0 := Lib.hid gm
  clear gm on
  clear V_x0
  have kn : ¬ (nextStepS ((1 : Int)) aSteps < 0) := by omega
  go_wp2_with fail
  refine (eqStepS_any A_g0 A_w0 _ c_g0 c_w0 _ L_g0 L_w0 _ rfl (by omega) (sliceC_out V_g0.out.rep).2.2 (sliceC_out V_w0.out.rep).2.2).mono ?_
  rintro e w10 ⟨rfl, hb⟩
  have B10 := Lib.hid (B9.out.trans (hb.mono B9.out.size))
  have sz10 := hb.size
  have V_w0 := Lib.hid (V_w0.out.later hb)
  have V_g0 := Lib.hid (V_g0.out.later hb)
  clear B9
  clear hb
  have nl_g0_10 := nextStepS_le ((1 : Int)) R0
  have nb_g0_10 : nextStepS ((1 : Int)) R0 ≤ 4611686018427387904 := by omega
  have ng_g0_10 := nextStepS_ge ((1 : Int)) R0
  go_wp2_with fail
  refine (markStepS_any A_g0 _ c_g0 R0 L_g0 _ _ _ rfl (by omega) (by omega) (by omega) V_g0.out).mono ?_
  rintro e w11 ⟨rfl, gm, on⟩
  have B11 := Lib.hid (B10.out.trans (on.below B10.out.size (fun y m => by have := ge_g0.out y m; omega)))
  have sz11 := on.size
  have V_w0 := Lib.hid (V_w0.out.only on (fun y m m' => by have := lt_w0.out y m; have := ge_g0.out y m'; omega))
  clear B10
  have V_g0 := Lib.hid gm
  clear gm on
  go_wp2_with fail
  refine (heldStepS_any A_g0 _ c_g0 R0 L_g0 _ _ rfl (by omega) (by omega) (by omega) (sliceC_out V_g0.out.rep).2.2).mono ?_
  rintro e w12 ⟨rfl, hb⟩
  have B12 := Lib.hid (B11.out.trans (hb.mono B11.out.size))
  have sz12 := hb.size
  have V_w0 := Lib.hid (V_w0.out.later hb)
  have V_g0 := Lib.hid (V_g0.out.later hb)
  clear B11
  clear hb
  have qn12 : ¬ (nextStepS ((1 : Int)) R0 < 0) := by omega
  have qm12 : ((nextStepS ((1 : Int)) R0) != (nextStepS ((1 : Int)) R0)) = false := by simp
  go_wp2_with fail
  refine (toStepS_any A_aSteps _ c_aSteps aSteps L_aSteps _ rfl cz_aSteps (H_aSteps.out.below B12.out)).mono ?_
  rintro e w13 ⟨v, rfl, acc⟩
  obtain ⟨A_t12aSteps, c_t12aSteps, rfl⟩ := acc.shape
  have hb := acc.below
  obtain ⟨L_t12aSteps, gt⟩ := acc.got
  have B13 := Lib.hid (B12.out.trans (hb.mono B12.out.size))
  have sz13 := hb.size
  have V_w0 := Lib.hid (V_w0.out.later hb)
  have V_g0 := Lib.hid (V_g0.out.later hb)
  clear B12
  have V_t12aSteps := Lib.hid gt
  have ge_t12aSteps := Lib.hid gt.own.ge
  have lt_t12aSteps := Lib.hid gt.lt
  clear gt hb acc
  go_wp2_with fail
  refine (iTrimProof_std _ A_t12aSteps c_t12aSteps aSteps L_t12aSteps cz_aSteps V_t12aSteps.out.rep aK wf_aK).mono ?_
  rintro e w14 ⟨v, rfl, acc⟩
  rw [← HR0.out] at acc
  obtain ⟨A_h0, c_h0, rfl⟩ := acc.shape
  have hb := acc.below
  obtain ⟨L_h0, gt⟩ := acc.got
  have B14 := Lib.hid (B13.out.trans (hb.mono B13.out.size))
  have sz14 := hb.size
  have V_w0 := Lib.hid (V_w0.out.later hb)
  have V_g0 := Lib.hid (V_g0.out.later hb)
  have V_t12aSteps := Lib.hid (V_t12aSteps.out.later hb)
  clear B13
  have V_h0 := Lib.hid gt
  have ge_h0 := Lib.hid gt.own.ge
  have lt_h0 := Lib.hid gt.lt
  clear gt hb acc
  clear V_t12aSteps
  go_wp2_with fail
  refine (eqStepS_any A_h0 A_w0 _ c_h0 c_w0 _ L_h0 L_w0 _ rfl (by omega) (sliceC_out V_h0.out.rep).2.2 (sliceC_out V_w0.out.rep).2.2).mono ?_
  rintro e w15 ⟨rfl, hb⟩
  have B15 := Lib.hid (B14.out.trans (hb.mono B14.out.size))
  have sz15 := hb.size
  have V_w0 := Lib.hid (V_w0.out.later hb)
  have V_g0 := Lib.hid (V_g0.out.later hb)
  have V_h0 := Lib.hid (V_h0.out.later hb)
  clear B14
  clear hb
  go_wp2_with fail
  refine (heldStepS_any A_g0 _ c_g0 R0 L_g0 _ _ rfl (by omega) (by omega) (by omega) (sliceC_out V_g0.out.rep).2.2).mono ?_
  rintro e w16 ⟨rfl, hb⟩
  have B16 := Lib.hid (B15.out.trans (hb.mono B15.out.size))
  have sz16 := hb.size
  have V_w0 := Lib.hid (V_w0.out.later hb)
  have V_g0 := Lib.hid (V_g0.out.later hb)
  have V_h0 := Lib.hid (V_h0.out.later hb)
  clear B15
  clear hb
  have qn16 : ¬ (nextStepS ((1 : Int)) R0 < 0) := by omega
  have qm16 : ((nextStepS ((1 : Int)) R0) != (nextStepS ((1 : Int)) R0)) = false := by simp
  go_wp2_with fail
  go_ret
  exact ⟨rfl, B16.out⟩

end Go.Proofs.Ytfmplnebdldpdaa
