/- The program's HittingSets returns what the reference's returns. Printed by gen.py. -/
import Derived.Test.YtfmplnebdldpdaaHitStd
import Derived.Test.YtfmplnebdldpdaaSz
import Derived.Test.YtfmplnebdldpdaaTo
import Derived.Test.YtfmplnebdldpdaaEq
import Derived.Test.YtfmplnebdldpdaaMark
import Derived.Test.YtfmplnebdldpdaaHeld
import Derived.Test.YtfmplnebdldpdaaOpen
import Derived.Outline
import Derived.WalkSpells
import Derived.StillTailTactics
namespace Go.Proofs.Ytfmplnebdldpdaa
open Go.RowKit

set_option maxRecDepth 100000 in
set_option maxHeartbeats 8000000 in
theorem FnExactHittingSets_walk (w : World) (A_aL : Option Addr) (c_aL : Nat) (aL : List Int) (L_aL : List Nat) (ln_aL : aL.length ≤ 9223372036854775807) (h_aL : Sli intC w A_aL aL L_aL) (aN : Int) (wf_aN : wfInt aN) :
    Calls Try.prog 8 #[.slice A_aL aL.length c_aL, .int .i64 aN] w fun e w' => e = .returned (.bool true) ∧ Below w.heap.size w w' := by
  have H_aL := Lib.hid h_aL
  clear h_aL
  by_cases big_aL : (1048576 : Int) < aL.length
  · go_enter Try.func8, Try.ntmps8
    go_wp2
    go_ret
    exact ⟨rfl, Below.refl _ _⟩
  have cz_aL : aL.length ≤ 1048576 := by omega
  go_enter Try.func8, Try.ntmps8
  obtain ⟨R0, hR0⟩ : ∃ R : List Int, R = sLeast (hitting aL aN) := ⟨_, rfl⟩
  have HR0 := Lib.hid hR0
  have rl : R0.length ≤ 64 := by rw [hR0]; exact Nat.le_trans (sLeast_len _) (hitting_len aL aN)
  clear hR0
  go_wp2_with fail
  refine (toIntS_any A_aL _ c_aL aL L_aL _ rfl (by omega) (H_aL.out.below (Below.refl w.heap.size w))).mono ?_
  rintro e w1 ⟨v, rfl, acc⟩
  obtain ⟨A_t0aL, c_t0aL, rfl⟩ := acc.shape
  have hb := acc.below
  obtain ⟨L_t0aL, gt⟩ := acc.got
  have B1 := Lib.hid ((Below.refl w.heap.size w).trans (hb.mono (Below.refl w.heap.size w).size))
  have sz1 := hb.size
  have V_t0aL := Lib.hid gt
  have ge_t0aL := Lib.hid gt.own.ge
  have lt_t0aL := Lib.hid gt.lt
  clear gt hb acc
  go_wp2_with fail
  refine (sHittingSets_std _ A_t0aL c_t0aL aL L_t0aL cz_aL (sliceC_out V_t0aL.out.rep).2.2 aN wf_aN).mono ?_
  rintro e w2 ⟨v, rfl, acc⟩
  rw [← HR0.out] at acc
  obtain ⟨A_w0, c_w0, rfl⟩ := acc.shape
  have hb := acc.below
  obtain ⟨L_w0, gt⟩ := acc.got
  have B2 := Lib.hid (B1.out.trans (hb.mono B1.out.size))
  have sz2 := hb.size
  have V_t0aL := Lib.hid (V_t0aL.out.later hb)
  clear B1
  have V_w0 := Lib.hid gt
  have ge_w0 := Lib.hid gt.own.ge
  have lt_w0 := Lib.hid gt.lt
  clear gt hb acc
  clear V_t0aL
  go_wp2_with fail
  refine (toIntS_any A_aL _ c_aL aL L_aL _ rfl (by omega) (H_aL.out.below B2.out)).mono ?_
  rintro e w3 ⟨v, rfl, acc⟩
  obtain ⟨A_x0, c_x0, rfl⟩ := acc.shape
  have hb := acc.below
  obtain ⟨L_x0, gt⟩ := acc.got
  have B3 := Lib.hid (B2.out.trans (hb.mono B2.out.size))
  have sz3 := hb.size
  have V_w0 := Lib.hid (V_w0.out.later hb)
  clear B2
  have V_x0 := Lib.hid gt
  have ge_x0 := Lib.hid gt.own.ge
  have lt_x0 := Lib.hid gt.lt
  clear gt hb acc
  go_wp2_with fail
  refine (iHittingSets_std _ A_x0 c_x0 aL L_x0 cz_aL (sliceC_out V_x0.out.rep).2.2 aN wf_aN).mono ?_
  rintro e w4 ⟨v, rfl, acc⟩
  rw [least_same] at acc
  rw [← HR0.out] at acc
  obtain ⟨A_g0, c_g0, rfl⟩ := acc.shape
  have hb := acc.below
  obtain ⟨L_g0, gt⟩ := acc.got
  have B4 := Lib.hid (B3.out.trans (hb.mono B3.out.size))
  have sz4 := hb.size
  have V_w0 := Lib.hid (V_w0.out.later hb)
  have V_x0 := Lib.hid (V_x0.out.later hb)
  clear B3
  have V_g0 := Lib.hid gt
  have ge_g0 := Lib.hid gt.own.ge
  have lt_g0 := Lib.hid gt.lt
  clear gt hb acc
  go_wp2_with fail
  refine (eqIntS_any A_g0 A_w0 _ c_g0 c_w0 _ L_g0 L_w0 _ rfl (by omega) (sliceC_out V_g0.out.rep).2.2 (sliceC_out V_w0.out.rep).2.2).mono ?_
  rintro e w5 ⟨rfl, hb⟩
  have B5 := Lib.hid (B4.out.trans (hb.mono B4.out.size))
  have sz5 := hb.size
  have V_w0 := Lib.hid (V_w0.out.later hb)
  have V_x0 := Lib.hid (V_x0.out.later hb)
  have V_g0 := Lib.hid (V_g0.out.later hb)
  clear B4
  clear hb
  go_wp2_with fail
  refine (toIntS_any A_aL _ c_aL aL L_aL _ rfl (by omega) (H_aL.out.below B5.out)).mono ?_
  rintro e w6 ⟨v, rfl, acc⟩
  obtain ⟨A_t5aL, c_t5aL, rfl⟩ := acc.shape
  have hb := acc.below
  obtain ⟨L_t5aL, gt⟩ := acc.got
  have B6 := Lib.hid (B5.out.trans (hb.mono B5.out.size))
  have sz6 := hb.size
  have V_w0 := Lib.hid (V_w0.out.later hb)
  have V_x0 := Lib.hid (V_x0.out.later hb)
  have V_g0 := Lib.hid (V_g0.out.later hb)
  clear B5
  have V_t5aL := Lib.hid gt
  have ge_t5aL := Lib.hid gt.own.ge
  have lt_t5aL := Lib.hid gt.lt
  clear gt hb acc
  go_wp2_with fail
  refine (eqIntS_any A_x0 A_t5aL _ c_x0 c_t5aL _ L_x0 L_t5aL _ rfl (by omega) (sliceC_out V_x0.out.rep).2.2 (sliceC_out V_t5aL.out.rep).2.2).mono ?_
  rintro e w7 ⟨rfl, hb⟩
  have B7 := Lib.hid (B6.out.trans (hb.mono B6.out.size))
  have sz7 := hb.size
  have V_w0 := Lib.hid (V_w0.out.later hb)
  have V_x0 := Lib.hid (V_x0.out.later hb)
  have V_g0 := Lib.hid (V_g0.out.later hb)
  have V_t5aL := Lib.hid (V_t5aL.out.later hb)
  clear B6
  clear hb
  clear V_t5aL
  have nl_x0_7 := nextIntS_le ((1 : Int)) aL
  have nb_x0_7 : nextIntS ((1 : Int)) aL ≤ 4611686018427387904 := by omega
  have ng_x0_7 := nextIntS_ge ((1 : Int)) aL
  go_wp2_with fail
  refine (markIntS_any A_x0 _ c_x0 aL L_x0 _ _ _ rfl (by omega) (by omega) V_x0.out).mono ?_
  rintro e w8 ⟨rfl, gm, on⟩
  have B8 := Lib.hid (B7.out.trans (on.below B7.out.size (fun y m => by have := ge_x0.out y m; omega)))
  have sz8 := on.size
  have V_w0 := Lib.hid (V_w0.out.only on (fun y m m' => by have := lt_w0.out y m; have := ge_x0.out y m'; omega))
  have V_g0 := Lib.hid (V_g0.out.only on (fun y m m' => by have := ge_g0.out y m; have := lt_x0.out y m'; omega))
  clear B7
  have V_x0 := Lib.hid gm
  clear gm on
  clear V_x0
  have kn : ¬ (nextIntS ((1 : Int)) aL < 0) := by omega
  go_wp2_with fail
  refine (eqIntS_any A_g0 A_w0 _ c_g0 c_w0 _ L_g0 L_w0 _ rfl (by omega) (sliceC_out V_g0.out.rep).2.2 (sliceC_out V_w0.out.rep).2.2).mono ?_
  rintro e w9 ⟨rfl, hb⟩
  have B9 := Lib.hid (B8.out.trans (hb.mono B8.out.size))
  have sz9 := hb.size
  have V_w0 := Lib.hid (V_w0.out.later hb)
  have V_g0 := Lib.hid (V_g0.out.later hb)
  clear B8
  clear hb
  have nl_g0_9 := nextIntS_le ((1 : Int)) R0
  have nb_g0_9 : nextIntS ((1 : Int)) R0 ≤ 4611686018427387904 := by omega
  have ng_g0_9 := nextIntS_ge ((1 : Int)) R0
  go_wp2_with fail
  refine (markIntS_any A_g0 _ c_g0 R0 L_g0 _ _ _ rfl (by omega) (by omega) V_g0.out).mono ?_
  rintro e w10 ⟨rfl, gm, on⟩
  have B10 := Lib.hid (B9.out.trans (on.below B9.out.size (fun y m => by have := ge_g0.out y m; omega)))
  have sz10 := on.size
  have V_w0 := Lib.hid (V_w0.out.only on (fun y m m' => by have := lt_w0.out y m; have := ge_g0.out y m'; omega))
  clear B9
  have V_g0 := Lib.hid gm
  clear gm on
  go_wp2_with fail
  refine (heldIntS_any A_g0 _ c_g0 R0 L_g0 _ _ rfl (by omega) (by omega) (sliceC_out V_g0.out.rep).2.2).mono ?_
  rintro e w11 ⟨rfl, hb⟩
  have B11 := Lib.hid (B10.out.trans (hb.mono B10.out.size))
  have sz11 := hb.size
  have V_w0 := Lib.hid (V_w0.out.later hb)
  have V_g0 := Lib.hid (V_g0.out.later hb)
  clear B10
  clear hb
  have qn11 : ¬ (nextIntS ((1 : Int)) R0 < 0) := by omega
  have qm11 : ((nextIntS ((1 : Int)) R0) != (nextIntS ((1 : Int)) R0)) = false := by simp
  go_wp2_with fail
  refine (toIntS_any A_aL _ c_aL aL L_aL _ rfl (by omega) (H_aL.out.below B11.out)).mono ?_
  rintro e w12 ⟨v, rfl, acc⟩
  obtain ⟨A_t11aL, c_t11aL, rfl⟩ := acc.shape
  have hb := acc.below
  obtain ⟨L_t11aL, gt⟩ := acc.got
  have B12 := Lib.hid (B11.out.trans (hb.mono B11.out.size))
  have sz12 := hb.size
  have V_w0 := Lib.hid (V_w0.out.later hb)
  have V_g0 := Lib.hid (V_g0.out.later hb)
  clear B11
  have V_t11aL := Lib.hid gt
  have ge_t11aL := Lib.hid gt.own.ge
  have lt_t11aL := Lib.hid gt.lt
  clear gt hb acc
  go_wp2_with fail
  refine (iHittingSets_std _ A_t11aL c_t11aL aL L_t11aL cz_aL (sliceC_out V_t11aL.out.rep).2.2 aN wf_aN).mono ?_
  rintro e w13 ⟨v, rfl, acc⟩
  rw [least_same] at acc
  rw [← HR0.out] at acc
  obtain ⟨A_h0, c_h0, rfl⟩ := acc.shape
  have hb := acc.below
  obtain ⟨L_h0, gt⟩ := acc.got
  have B13 := Lib.hid (B12.out.trans (hb.mono B12.out.size))
  have sz13 := hb.size
  have V_w0 := Lib.hid (V_w0.out.later hb)
  have V_g0 := Lib.hid (V_g0.out.later hb)
  have V_t11aL := Lib.hid (V_t11aL.out.later hb)
  clear B12
  have V_h0 := Lib.hid gt
  have ge_h0 := Lib.hid gt.own.ge
  have lt_h0 := Lib.hid gt.lt
  clear gt hb acc
  clear V_t11aL
  go_wp2_with fail
  refine (eqIntS_any A_h0 A_w0 _ c_h0 c_w0 _ L_h0 L_w0 _ rfl (by omega) (sliceC_out V_h0.out.rep).2.2 (sliceC_out V_w0.out.rep).2.2).mono ?_
  rintro e w14 ⟨rfl, hb⟩
  have B14 := Lib.hid (B13.out.trans (hb.mono B13.out.size))
  have sz14 := hb.size
  have V_w0 := Lib.hid (V_w0.out.later hb)
  have V_g0 := Lib.hid (V_g0.out.later hb)
  have V_h0 := Lib.hid (V_h0.out.later hb)
  clear B13
  clear hb
  go_wp2_with fail
  refine (heldIntS_any A_g0 _ c_g0 R0 L_g0 _ _ rfl (by omega) (by omega) (sliceC_out V_g0.out.rep).2.2).mono ?_
  rintro e w15 ⟨rfl, hb⟩
  have B15 := Lib.hid (B14.out.trans (hb.mono B14.out.size))
  have sz15 := hb.size
  have V_w0 := Lib.hid (V_w0.out.later hb)
  have V_g0 := Lib.hid (V_g0.out.later hb)
  have V_h0 := Lib.hid (V_h0.out.later hb)
  clear B14
  clear hb
  have qn15 : ¬ (nextIntS ((1 : Int)) R0 < 0) := by omega
  have qm15 : ((nextIntS ((1 : Int)) R0) != (nextIntS ((1 : Int)) R0)) = false := by simp
  go_wp2_with fail
  go_ret
  exact ⟨rfl, B15.out⟩

end Go.Proofs.Ytfmplnebdldpdaa
