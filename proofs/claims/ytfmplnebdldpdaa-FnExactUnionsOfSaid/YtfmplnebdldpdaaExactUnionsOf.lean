/- The program's UnionsOf returns what the reference's returns. Printed by gen.py. -/
import Derived.Test.YtfmplnebdldpdaaUnionsStd
import Derived.Test.YtfmplnebdldpdaaSz
import Derived.Test.YtfmplnebdldpdaaTo
import Derived.Test.YtfmplnebdldpdaaEq
import Derived.Test.YtfmplnebdldpdaaMark
import Derived.Test.YtfmplnebdldpdaaHeld
import Derived.Test.YtfmplnebdldpdaaOpen
import Derived.Outline
import Derived.WalkSpells
import Derived.StillTailTactics
namespace Go.Proofs.Ytfmplnebdldpdaa
open Go.RowKit

set_option maxRecDepth 100000 in
set_option maxHeartbeats 8000000 in
theorem FnExactUnionsOf_walk (w : World) (A_aA : Option Addr) (c_aA : Nat) (aA : List Int) (L_aA : List Nat) (ln_aA : aA.length ≤ 9223372036854775807) (h_aA : Sli intC w A_aA aA L_aA) (A_aB : Option Addr) (c_aB : Nat) (aB : List Int) (L_aB : List Nat) (ln_aB : aB.length ≤ 9223372036854775807) (h_aB : Sli intC w A_aB aB L_aB) :
    Calls Try.prog 7 #[.slice A_aA aA.length c_aA, .slice A_aB aB.length c_aB] w fun e w' => e = .returned (.bool true) ∧ Below w.heap.size w w' := by
  have H_aA := Lib.hid h_aA
  clear h_aA
  have H_aB := Lib.hid h_aB
  clear h_aB
  by_cases big_aA : (1048576 : Int) < aA.length
  · go_enter Try.func7, Try.ntmps7
    go_wp2
    go_ret
    exact ⟨rfl, Below.refl _ _⟩
  have cz_aA : aA.length ≤ 1048576 := by omega
  by_cases big_aB : (1048576 : Int) < aB.length
  · go_enter Try.func7, Try.ntmps7
    go_wp2
    go_ret
    exact ⟨rfl, Below.refl _ _⟩
  have cz_aB : aB.length ≤ 1048576 := by omega
  go_enter Try.func7, Try.ntmps7
  obtain ⟨R0, hR0⟩ : ∃ R : List Int, R = sLeast (unAll aA aB) := ⟨_, rfl⟩
  have HR0 := Lib.hid hR0
  have rl : R0.length ≤ 1099511627776 := by rw [hR0]; exact Nat.le_trans (sLeast_len _) (unAll_len aA aB cz_aA cz_aB)
  clear hR0
  go_wp2_with fail
  refine (toIntS_any A_aA _ c_aA aA L_aA _ rfl (by omega) (H_aA.out.below (Below.refl w.heap.size w))).mono ?_
  rintro e w1 ⟨v, rfl, acc⟩
  obtain ⟨A_t0aA, c_t0aA, rfl⟩ := acc.shape
  have hb := acc.below
  obtain ⟨L_t0aA, gt⟩ := acc.got
  have B1 := Lib.hid ((Below.refl w.heap.size w).trans (hb.mono (Below.refl w.heap.size w).size))
  have sz1 := hb.size
  have V_t0aA := Lib.hid gt
  have ge_t0aA := Lib.hid gt.own.ge
  have lt_t0aA := Lib.hid gt.lt
  clear gt hb acc
  go_wp2_with fail
  refine (toIntS_any A_aB _ c_aB aB L_aB _ rfl (by omega) (H_aB.out.below B1.out)).mono ?_
  rintro e w2 ⟨v, rfl, acc⟩
  obtain ⟨A_t1aB, c_t1aB, rfl⟩ := acc.shape
  have hb := acc.below
  obtain ⟨L_t1aB, gt⟩ := acc.got
  have B2 := Lib.hid (B1.out.trans (hb.mono B1.out.size))
  have sz2 := hb.size
  have V_t0aA := Lib.hid (V_t0aA.out.later hb)
  clear B1
  have V_t1aB := Lib.hid gt
  have ge_t1aB := Lib.hid gt.own.ge
  have lt_t1aB := Lib.hid gt.lt
  clear gt hb acc
  go_wp2_with fail
  refine (sUnionsOf_std _ A_t0aA c_t0aA aA L_t0aA cz_aA (sliceC_out V_t0aA.out.rep).2.2 A_t1aB c_t1aB aB L_t1aB cz_aB (sliceC_out V_t1aB.out.rep).2.2).mono ?_
  rintro e w3 ⟨v, rfl, acc⟩
  rw [← HR0.out] at acc
  obtain ⟨A_w0, c_w0, rfl⟩ := acc.shape
  have hb := acc.below
  obtain ⟨L_w0, gt⟩ := acc.got
  have B3 := Lib.hid (B2.out.trans (hb.mono B2.out.size))
  have sz3 := hb.size
  have V_t0aA := Lib.hid (V_t0aA.out.later hb)
  have V_t1aB := Lib.hid (V_t1aB.out.later hb)
  clear B2
  have V_w0 := Lib.hid gt
  have ge_w0 := Lib.hid gt.own.ge
  have lt_w0 := Lib.hid gt.lt
  clear gt hb acc
  clear V_t0aA
  clear V_t1aB
  go_wp2_with fail
  refine (toIntS_any A_aA _ c_aA aA L_aA _ rfl (by omega) (H_aA.out.below B3.out)).mono ?_
  rintro e w4 ⟨v, rfl, acc⟩
  obtain ⟨A_x0, c_x0, rfl⟩ := acc.shape
  have hb := acc.below
  obtain ⟨L_x0, gt⟩ := acc.got
  have B4 := Lib.hid (B3.out.trans (hb.mono B3.out.size))
  have sz4 := hb.size
  have V_w0 := Lib.hid (V_w0.out.later hb)
  clear B3
  have V_x0 := Lib.hid gt
  have ge_x0 := Lib.hid gt.own.ge
  have lt_x0 := Lib.hid gt.lt
  clear gt hb acc
  go_wp2_with fail
  refine (toIntS_any A_aB _ c_aB aB L_aB _ rfl (by omega) (H_aB.out.below B4.out)).mono ?_
  rintro e w5 ⟨v, rfl, acc⟩
  obtain ⟨A_x1, c_x1, rfl⟩ := acc.shape
  have hb := acc.below
  obtain ⟨L_x1, gt⟩ := acc.got
  have B5 := Lib.hid (B4.out.trans (hb.mono B4.out.size))
  have sz5 := hb.size
  have V_w0 := Lib.hid (V_w0.out.later hb)
  have V_x0 := Lib.hid (V_x0.out.later hb)
  clear B4
  have V_x1 := Lib.hid gt
  have ge_x1 := Lib.hid gt.own.ge
  have lt_x1 := Lib.hid gt.lt
  clear gt hb acc
  go_wp2_with fail
  refine (iUnionsOf_std _ A_x0 c_x0 aA L_x0 cz_aA (sliceC_out V_x0.out.rep).2.2 A_x1 c_x1 aB L_x1 cz_aB (sliceC_out V_x1.out.rep).2.2).mono ?_
  rintro e w6 ⟨v, rfl, acc⟩
  rw [least_same] at acc
  rw [← HR0.out] at acc
  obtain ⟨A_g0, c_g0, rfl⟩ := acc.shape
  have hb := acc.below
  obtain ⟨L_g0, gt⟩ := acc.got
  have B6 := Lib.hid (B5.out.trans (hb.mono B5.out.size))
  have sz6 := hb.size
  have V_w0 := Lib.hid (V_w0.out.later hb)
  have V_x0 := Lib.hid (V_x0.out.later hb)
  have V_x1 := Lib.hid (V_x1.out.later hb)
  clear B5
  have V_g0 := Lib.hid gt
  have ge_g0 := Lib.hid gt.own.ge
  have lt_g0 := Lib.hid gt.lt
  clear gt hb acc
  go_wp2_with fail
  refine (eqIntS_any A_g0 A_w0 _ c_g0 c_w0 _ L_g0 L_w0 _ rfl (by omega) (sliceC_out V_g0.out.rep).2.2 (sliceC_out V_w0.out.rep).2.2).mono ?_
  rintro e w7 ⟨rfl, hb⟩
  have B7 := Lib.hid (B6.out.trans (hb.mono B6.out.size))
  have sz7 := hb.size
  have V_w0 := Lib.hid (V_w0.out.later hb)
  have V_x0 := Lib.hid (V_x0.out.later hb)
  have V_x1 := Lib.hid (V_x1.out.later hb)
  have V_g0 := Lib.hid (V_g0.out.later hb)
  clear B6
  clear hb
  go_wp2_with fail
  refine (toIntS_any A_aA _ c_aA aA L_aA _ rfl (by omega) (H_aA.out.below B7.out)).mono ?_
  rintro e w8 ⟨v, rfl, acc⟩
  obtain ⟨A_t7aA, c_t7aA, rfl⟩ := acc.shape
  have hb := acc.below
  obtain ⟨L_t7aA, gt⟩ := acc.got
  have B8 := Lib.hid (B7.out.trans (hb.mono B7.out.size))
  have sz8 := hb.size
  have V_w0 := Lib.hid (V_w0.out.later hb)
  have V_x0 := Lib.hid (V_x0.out.later hb)
  have V_x1 := Lib.hid (V_x1.out.later hb)
  have V_g0 := Lib.hid (V_g0.out.later hb)
  clear B7
  have V_t7aA := Lib.hid gt
  have ge_t7aA := Lib.hid gt.own.ge
  have lt_t7aA := Lib.hid gt.lt
  clear gt hb acc
  go_wp2_with fail
  refine (eqIntS_any A_x0 A_t7aA _ c_x0 c_t7aA _ L_x0 L_t7aA _ rfl (by omega) (sliceC_out V_x0.out.rep).2.2 (sliceC_out V_t7aA.out.rep).2.2).mono ?_
  rintro e w9 ⟨rfl, hb⟩
  have B9 := Lib.hid (B8.out.trans (hb.mono B8.out.size))
  have sz9 := hb.size
  have V_w0 := Lib.hid (V_w0.out.later hb)
  have V_x0 := Lib.hid (V_x0.out.later hb)
  have V_x1 := Lib.hid (V_x1.out.later hb)
  have V_g0 := Lib.hid (V_g0.out.later hb)
  have V_t7aA := Lib.hid (V_t7aA.out.later hb)
  clear B8
  clear hb
  clear V_t7aA
  go_wp2_with fail
  refine (toIntS_any A_aB _ c_aB aB L_aB _ rfl (by omega) (H_aB.out.below B9.out)).mono ?_
  rintro e w10 ⟨v, rfl, acc⟩
  obtain ⟨A_t9aB, c_t9aB, rfl⟩ := acc.shape
  have hb := acc.below
  obtain ⟨L_t9aB, gt⟩ := acc.got
  have B10 := Lib.hid (B9.out.trans (hb.mono B9.out.size))
  have sz10 := hb.size
  have V_w0 := Lib.hid (V_w0.out.later hb)
  have V_x0 := Lib.hid (V_x0.out.later hb)
  have V_x1 := Lib.hid (V_x1.out.later hb)
  have V_g0 := Lib.hid (V_g0.out.later hb)
  clear B9
  have V_t9aB := Lib.hid gt
  have ge_t9aB := Lib.hid gt.own.ge
  have lt_t9aB := Lib.hid gt.lt
  clear gt hb acc
  go_wp2_with fail
  refine (eqIntS_any A_x1 A_t9aB _ c_x1 c_t9aB _ L_x1 L_t9aB _ rfl (by omega) (sliceC_out V_x1.out.rep).2.2 (sliceC_out V_t9aB.out.rep).2.2).mono ?_
  rintro e w11 ⟨rfl, hb⟩
  have B11 := Lib.hid (B10.out.trans (hb.mono B10.out.size))
  have sz11 := hb.size
  have V_w0 := Lib.hid (V_w0.out.later hb)
  have V_x0 := Lib.hid (V_x0.out.later hb)
  have V_x1 := Lib.hid (V_x1.out.later hb)
  have V_g0 := Lib.hid (V_g0.out.later hb)
  have V_t9aB := Lib.hid (V_t9aB.out.later hb)
  clear B10
  clear hb
  clear V_t9aB
  have nl_x0_11 := nextIntS_le ((1 : Int)) aA
  have nb_x0_11 : nextIntS ((1 : Int)) aA ≤ 4611686018427387904 := by omega
  have ng_x0_11 := nextIntS_ge ((1 : Int)) aA
  go_wp2_with fail
  refine (markIntS_any A_x0 _ c_x0 aA L_x0 _ _ _ rfl (by omega) (by omega) V_x0.out).mono ?_
  rintro e w12 ⟨rfl, gm, on⟩
  have B12 := Lib.hid (B11.out.trans (on.below B11.out.size (fun y m => by have := ge_x0.out y m; omega)))
  have sz12 := on.size
  have V_w0 := Lib.hid (V_w0.out.only on (fun y m m' => by have := lt_w0.out y m; have := ge_x0.out y m'; omega))
  have V_x1 := Lib.hid (V_x1.out.only on (fun y m m' => by have := ge_x1.out y m; have := lt_x0.out y m'; omega))
  have V_g0 := Lib.hid (V_g0.out.only on (fun y m m' => by have := ge_g0.out y m; have := lt_x0.out y m'; omega))
  clear B11
  have V_x0 := Lib.hid gm
  clear gm on
  clear V_x0
  have nl_x1_12 := nextIntS_le (nextIntS ((1 : Int)) aA) aB
  have nb_x1_12 : nextIntS (nextIntS ((1 : Int)) aA) aB ≤ 4611686018427387904 := by omega
  have ng_x1_12 := nextIntS_ge (nextIntS ((1 : Int)) aA) aB
  go_wp2_with fail
  refine (markIntS_any A_x1 _ c_x1 aB L_x1 _ _ _ rfl (by omega) (by omega) V_x1.out).mono ?_
  rintro e w13 ⟨rfl, gm, on⟩
  have B13 := Lib.hid (B12.out.trans (on.below B12.out.size (fun y m => by have := ge_x1.out y m; omega)))
  have sz13 := on.size
  have V_w0 := Lib.hid (V_w0.out.only on (fun y m m' => by have := lt_w0.out y m; have := ge_x1.out y m'; omega))
  have V_g0 := Lib.hid (V_g0.out.only on (fun y m m' => by have := ge_g0.out y m; have := lt_x1.out y m'; omega))
  clear B12
  have V_x1 := Lib.hid gm
  clear gm on
  clear V_x1
  have kn : ¬ (nextIntS (nextIntS ((1 : Int)) aA) aB < 0) := by omega
  go_wp2_with fail
  refine (eqIntS_any A_g0 A_w0 _ c_g0 c_w0 _ L_g0 L_w0 _ rfl (by omega) (sliceC_out V_g0.out.rep).2.2 (sliceC_out V_w0.out.rep).2.2).mono ?_
  rintro e w14 ⟨rfl, hb⟩
  have B14 := Lib.hid (B13.out.trans (hb.mono B13.out.size))
  have sz14 := hb.size
  have V_w0 := Lib.hid (V_w0.out.later hb)
  have V_g0 := Lib.hid (V_g0.out.later hb)
  clear B13
  clear hb
  have nl_g0_14 := nextIntS_le ((1 : Int)) R0
  have nb_g0_14 : nextIntS ((1 : Int)) R0 ≤ 4611686018427387904 := by omega
  have ng_g0_14 := nextIntS_ge ((1 : Int)) R0
  go_wp2_with fail
  refine (markIntS_any A_g0 _ c_g0 R0 L_g0 _ _ _ rfl (by omega) (by omega) V_g0.out).mono ?_
  rintro e w15 ⟨rfl, gm, on⟩
  have B15 := Lib.hid (B14.out.trans (on.below B14.out.size (fun y m => by have := ge_g0.out y m; omega)))
  have sz15 := on.size
  have V_w0 := Lib.hid (V_w0.out.only on (fun y m m' => by have := lt_w0.out y m; have := ge_g0.out y m'; omega))
  clear B14
  have V_g0 := Lib.hid gm
  clear gm on
  go_wp2_with fail
  refine (heldIntS_any A_g0 _ c_g0 R0 L_g0 _ _ rfl (by omega) (by omega) (sliceC_out V_g0.out.rep).2.2).mono ?_
  rintro e w16 ⟨rfl, hb⟩
  have B16 := Lib.hid (B15.out.trans (hb.mono B15.out.size))
  have sz16 := hb.size
  have V_w0 := Lib.hid (V_w0.out.later hb)
  have V_g0 := Lib.hid (V_g0.out.later hb)
  clear B15
  clear hb
  have qn16 : ¬ (nextIntS ((1 : Int)) R0 < 0) := by omega
  have qm16 : ((nextIntS ((1 : Int)) R0) != (nextIntS ((1 : Int)) R0)) = false := by simp
  go_wp2_with fail
  refine (toIntS_any A_aA _ c_aA aA L_aA _ rfl (by omega) (H_aA.out.below B16.out)).mono ?_
  rintro e w17 ⟨v, rfl, acc⟩
  obtain ⟨A_t16aA, c_t16aA, rfl⟩ := acc.shape
  have hb := acc.below
  obtain ⟨L_t16aA, gt⟩ := acc.got
  have B17 := Lib.hid (B16.out.trans (hb.mono B16.out.size))
  have sz17 := hb.size
  have V_w0 := Lib.hid (V_w0.out.later hb)
  have V_g0 := Lib.hid (V_g0.out.later hb)
  clear B16
  have V_t16aA := Lib.hid gt
  have ge_t16aA := Lib.hid gt.own.ge
  have lt_t16aA := Lib.hid gt.lt
  clear gt hb acc
  go_wp2_with fail
  refine (toIntS_any A_aB _ c_aB aB L_aB _ rfl (by omega) (H_aB.out.below B17.out)).mono ?_
  rintro e w18 ⟨v, rfl, acc⟩
  obtain ⟨A_t17aB, c_t17aB, rfl⟩ := acc.shape
  have hb := acc.below
  obtain ⟨L_t17aB, gt⟩ := acc.got
  have B18 := Lib.hid (B17.out.trans (hb.mono B17.out.size))
  have sz18 := hb.size
  have V_w0 := Lib.hid (V_w0.out.later hb)
  have V_g0 := Lib.hid (V_g0.out.later hb)
  have V_t16aA := Lib.hid (V_t16aA.out.later hb)
  clear B17
  have V_t17aB := Lib.hid gt
  have ge_t17aB := Lib.hid gt.own.ge
  have lt_t17aB := Lib.hid gt.lt
  clear gt hb acc
  go_wp2_with fail
  refine (iUnionsOf_std _ A_t16aA c_t16aA aA L_t16aA cz_aA (sliceC_out V_t16aA.out.rep).2.2 A_t17aB c_t17aB aB L_t17aB cz_aB (sliceC_out V_t17aB.out.rep).2.2).mono ?_
  rintro e w19 ⟨v, rfl, acc⟩
  rw [least_same] at acc
  rw [← HR0.out] at acc
  obtain ⟨A_h0, c_h0, rfl⟩ := acc.shape
  have hb := acc.below
  obtain ⟨L_h0, gt⟩ := acc.got
  have B19 := Lib.hid (B18.out.trans (hb.mono B18.out.size))
  have sz19 := hb.size
  have V_w0 := Lib.hid (V_w0.out.later hb)
  have V_g0 := Lib.hid (V_g0.out.later hb)
  have V_t16aA := Lib.hid (V_t16aA.out.later hb)
  have V_t17aB := Lib.hid (V_t17aB.out.later hb)
  clear B18
  have V_h0 := Lib.hid gt
  have ge_h0 := Lib.hid gt.own.ge
  have lt_h0 := Lib.hid gt.lt
  clear gt hb acc
  clear V_t16aA
  clear V_t17aB
  go_wp2_with fail
  refine (eqIntS_any A_h0 A_w0 _ c_h0 c_w0 _ L_h0 L_w0 _ rfl (by omega) (sliceC_out V_h0.out.rep).2.2 (sliceC_out V_w0.out.rep).2.2).mono ?_
  rintro e w20 ⟨rfl, hb⟩
  have B20 := Lib.hid (B19.out.trans (hb.mono B19.out.size))
  have sz20 := hb.size
  have V_w0 := Lib.hid (V_w0.out.later hb)
  have V_g0 := Lib.hid (V_g0.out.later hb)
  have V_h0 := Lib.hid (V_h0.out.later hb)
  clear B19
  clear hb
  go_wp2_with fail
  refine (heldIntS_any A_g0 _ c_g0 R0 L_g0 _ _ rfl (by omega) (by omega) (sliceC_out V_g0.out.rep).2.2).mono ?_
  rintro e w21 ⟨rfl, hb⟩
  have B21 := Lib.hid (B20.out.trans (hb.mono B20.out.size))
  have sz21 := hb.size
  have V_w0 := Lib.hid (V_w0.out.later hb)
  have V_g0 := Lib.hid (V_g0.out.later hb)
  have V_h0 := Lib.hid (V_h0.out.later hb)
  clear B20
  clear hb
  have qn21 : ¬ (nextIntS ((1 : Int)) R0 < 0) := by omega
  have qm21 : ((nextIntS ((1 : Int)) R0) != (nextIntS ((1 : Int)) R0)) = false := by simp
  go_wp2_with fail
  go_ret
  exact ⟨rfl, B21.out⟩

end Go.Proofs.Ytfmplnebdldpdaa
