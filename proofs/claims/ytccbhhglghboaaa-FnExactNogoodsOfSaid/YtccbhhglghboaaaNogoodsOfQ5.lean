/- Texts of this proof, joined: ExactNogoodsOf, Opens. What each holds is said at its theorems. -/
import Derived.Test.YtccbhhglghboaaaNogoodsOfQ2
import Derived.Test.YtccbhhglghboaaaNogoodsOfQ4
import Derived.Outline
import Derived.WalkSpells
import Derived.StillTailTactics
import Derived.Deep.RegionHeld3
import Derived.Test.YtccbhhglghboaaaProg
import Derived.Test.YtccbhhglghboaaaNogoodsOfQ1
set_option linter.unusedSimpArgs false
set_option linter.unusedVariables false
namespace Go.Proofs.Ytccbhhglghboaaa
open Go.RowKit

theorem below_of_drew0 {w w1 : World} {B : Nat} (h : Below w.drew.heap.size w.drew w1) (hB : B ≤ w.heap.size) : Below B w w1 := ⟨h.os, h.tape, h.output, h.size, fun k hk => h.block k (Nat.lt_of_lt_of_le hk hB)⟩

theorem sNogoodsOf_std {aF : FrameD} {r : List Int} (hh : s_NogoodsOf aF = some r) (w : World) (qaF : List Value) (LaF : List Nat) (haF : cFrame.rep w qaF aF LaF) :
    Calls Try.prog 26 #[.agg qaF.toArray] w (GivesS intC 3 w r) :=
  Sound.givesS (c := intC) (g := eInt) (ds := r) (s_NogoodsOf_ok hh) encInt trivial (vs := [_]) ⟨arg_agg encFrame haF, trivial⟩

theorem iNogoodsOf_std {aF : FrameD} {r : List Int} (hh : i_NogoodsOf aF = some r) (w : World) (qaF : List Value) (LaF : List Nat) (haF : cFrame.rep w qaF aF LaF) :
    Calls Try.prog 28 #[.agg qaF.toArray] w (GivesS intC 3 w r) :=
  Sound.givesS (c := intC) (g := eInt) (ds := r) (i_NogoodsOf_ok hh) encInt trivial (vs := [_]) ⟨arg_agg encFrame haF, trivial⟩

set_option maxRecDepth 100000 in
set_option maxHeartbeats 8000000 in
theorem FnExactNogoodsOf_walk (w : World) (cs_aF : List Value) (aF : FrameD) (L_aF : List Nat) (h_aF : cFrame.rep w cs_aF aF L_aF) :
    Calls Try.prog 5 #[.agg cs_aF.toArray] w fun e w' => e = .returned (.bool true) ∧ Below w.heap.size w w' := by
  have H_aF := Lib.hid h_aF
  clear h_aF
  obtain ⟨aF_A1, aF_c1, aF_A2, aF_c2, aF_A3, aF_c3, rfl⟩ := cFrame_cells H_aF.out
  have B0 : Hid (Below w.heap.size w (w.alloc (.cells #[.int .i64 aF.beliefs.nodes, .slice aF_A1 aF.beliefs.reasons.length aF_c1, .slice aF_A2 aF.assumed.length aF_c2, .slice aF_A3 aF.bad.length aF_c3] 45))) := (Below.alloc (Below.refl _ _) (Nat.le_refl _) _)
  have sz0 : w.heap.size + 1 ≤ ((w.alloc (.cells #[.int .i64 aF.beliefs.nodes, .slice aF_A1 aF.beliefs.reasons.length aF_c1, .slice aF_A2 aF.assumed.length aF_c2, .slice aF_A3 aF.bad.length aF_c3] 45))).heap.size := Nat.le_of_eq (by simp only [World.alloc, Array.size_push])
  have K_aF : Hid (Blk (w.alloc (.cells #[.int .i64 aF.beliefs.nodes, .slice aF_A1 aF.beliefs.reasons.length aF_c1, .slice aF_A2 aF.assumed.length aF_c2, .slice aF_A3 aF.bad.length aF_c3] 45)) (w.heap.size) 45 #[.int .i64 aF.beliefs.nodes, .slice aF_A1 aF.beliefs.reasons.length aF_c1, .slice aF_A2 aF.assumed.length aF_c2, .slice aF_A3 aF.bad.length aF_c3]) := (Blk.new _ _ _)
  go_enter Try.func5, Try.ntmps5
  go_wp2_with fail
  refine (szFrame_any [.int .i64 aF.beliefs.nodes, .slice aF_A1 aF.beliefs.reasons.length aF_c1, .slice aF_A2 aF.assumed.length aF_c2, .slice aF_A3 aF.bad.length aF_c3] aF L_aF _ _ (by omega) (by omega) (cFrame.keep H_aF.out (keep_below B0.out (cFrame.lt H_aF.out)))).mono ?_
  rintro e w1 ⟨rfl, hb⟩
  have B1 := Lib.hid (B0.out.trans (hb.mono B0.out.size))
  have sz1 := hb.size
  have K_aF := Lib.hid (K_aF.out.later hb)
  have f_aF_0 := K_aF.out.at (i := 0) rfl
  have f_aF_1 := K_aF.out.at (i := 1) rfl
  have f_aF_2 := K_aF.out.at (i := 2) rfl
  have f_aF_3 := K_aF.out.at (i := 3) rfl
  clear hb
  by_cases cc_aF : ((costFrame aF : Nat) : Int) ≤ 1048576
  rotate_left
  · rw [szR_neg cc_aF]
    go_wp2
    go_ret
    exact ⟨rfl, B1.out⟩
  rw [szR_pos cc_aF]
  have cz_aF : costFrame aF ≤ 1048576 := by omega
  have nn_aF : ¬ (1048576 - ((costFrame aF : Nat) : Int) < 0) := by omega
  obtain ⟨R0, hs0, hi0, rl⟩ := NogoodsOf_plain aF cz_aF
  go_wp2_with fail
  refine (toFrame_any [.int .i64 aF.beliefs.nodes, .slice aF_A1 aF.beliefs.reasons.length aF_c1, .slice aF_A2 aF.assumed.length aF_c2, .slice aF_A3 aF.bad.length aF_c3] aF L_aF _ cz_aF (cFrame.keep H_aF.out (keep_below B1.out (cFrame.lt H_aF.out)))).mono ?_
  rintro e w2 ⟨cs, L_t1aF, rfl, gt, hb⟩
  obtain ⟨t1aF_A1, t1aF_c1, t1aF_A2, t1aF_c2, t1aF_A3, t1aF_c3, rfl⟩ := cFrame_cells gt.rep
  have B2 := Lib.hid (B1.out.trans (hb.mono B1.out.size))
  have sz2 := hb.size
  have K_aF := Lib.hid (K_aF.out.later hb)
  clear f_aF_0 f_aF_1 f_aF_2 f_aF_3
  have f_aF_0 := K_aF.out.at (i := 0) rfl
  have f_aF_1 := K_aF.out.at (i := 1) rfl
  have f_aF_2 := K_aF.out.at (i := 2) rfl
  have f_aF_3 := K_aF.out.at (i := 3) rfl
  clear B1
  have V_t1aF := Lib.hid gt
  have ge_t1aF := Lib.hid gt.own.ge
  have lt_t1aF := Lib.hid gt.lt
  clear gt hb
  go_wp2_with fail
  refine (sNogoodsOf_std hs0 _ [.int .i64 aF.beliefs.nodes, .slice t1aF_A1 aF.beliefs.reasons.length t1aF_c1, .slice t1aF_A2 aF.assumed.length t1aF_c2, .slice t1aF_A3 aF.bad.length t1aF_c3] L_t1aF V_t1aF.out.rep).mono ?_
  rintro e w3 ⟨v, rfl, acc⟩
  obtain ⟨A_w0, c_w0, rfl⟩ := acc.shape
  have hb := acc.below
  obtain ⟨L_w0, gt⟩ := acc.got
  have B3 := Lib.hid (B2.out.trans (hb.mono B2.out.size))
  have sz3 := hb.size
  have V_t1aF := Lib.hid (V_t1aF.out.later hb)
  have K_aF := Lib.hid (K_aF.out.later hb)
  clear f_aF_0 f_aF_1 f_aF_2 f_aF_3
  have f_aF_0 := K_aF.out.at (i := 0) rfl
  have f_aF_1 := K_aF.out.at (i := 1) rfl
  have f_aF_2 := K_aF.out.at (i := 2) rfl
  have f_aF_3 := K_aF.out.at (i := 3) rfl
  clear B2
  have V_w0 := Lib.hid gt
  have ge_w0 := Lib.hid gt.own.ge
  have lt_w0 := Lib.hid gt.lt
  clear gt hb acc
  clear V_t1aF
  go_wp2_with fail
  refine (toFrame_any [.int .i64 aF.beliefs.nodes, .slice aF_A1 aF.beliefs.reasons.length aF_c1, .slice aF_A2 aF.assumed.length aF_c2, .slice aF_A3 aF.bad.length aF_c3] aF L_aF _ cz_aF (cFrame.keep H_aF.out (keep_below B3.out (cFrame.lt H_aF.out)))).mono ?_
  rintro e w4 ⟨cs, L_x0, rfl, gt, hb⟩
  obtain ⟨x0_A1, x0_c1, x0_A2, x0_c2, x0_A3, x0_c3, rfl⟩ := cFrame_cells gt.rep
  have B4 := Lib.hid (B3.out.trans (hb.mono B3.out.size))
  have sz4 := hb.size
  have V_w0 := Lib.hid (V_w0.out.later hb)
  have K_aF := Lib.hid (K_aF.out.later hb)
  clear f_aF_0 f_aF_1 f_aF_2 f_aF_3
  have f_aF_0 := K_aF.out.at (i := 0) rfl
  have f_aF_1 := K_aF.out.at (i := 1) rfl
  have f_aF_2 := K_aF.out.at (i := 2) rfl
  have f_aF_3 := K_aF.out.at (i := 3) rfl
  clear B3
  have V_x0 := Lib.hid gt
  have ge_x0 := Lib.hid gt.own.ge
  have lt_x0 := Lib.hid gt.lt
  clear gt hb
  have hb := (Below.refl w4.heap.size w4).alloc (Nat.le_refl _) (.cells #[.int .i64 aF.beliefs.nodes, .slice x0_A1 aF.beliefs.reasons.length x0_c1, .slice x0_A2 aF.assumed.length x0_c2, .slice x0_A3 aF.bad.length x0_c3] 52)
  have B5 := Lib.hid (B4.out.trans (hb.mono B4.out.size))
  have sz5 := hb.size
  have V_w0 := Lib.hid (V_w0.out.later hb)
  have V_x0 := Lib.hid (V_x0.out.later hb)
  have K_aF := Lib.hid (K_aF.out.later hb)
  clear f_aF_0 f_aF_1 f_aF_2 f_aF_3
  have f_aF_0 := K_aF.out.at (i := 0) rfl
  have f_aF_1 := K_aF.out.at (i := 1) rfl
  have f_aF_2 := K_aF.out.at (i := 2) rfl
  have f_aF_3 := K_aF.out.at (i := 3) rfl
  clear B4
  have szb_x0 : w4.heap.size + 1 ≤ (w4.alloc (.cells #[.int .i64 aF.beliefs.nodes, .slice x0_A1 aF.beliefs.reasons.length x0_c1, .slice x0_A2 aF.assumed.length x0_c2, .slice x0_A3 aF.bad.length x0_c3] 52)).heap.size := Nat.le_of_eq (by simp only [World.alloc, Array.size_push])
  have K_x0 : Hid (Blk (w4.alloc (.cells #[.int .i64 aF.beliefs.nodes, .slice x0_A1 aF.beliefs.reasons.length x0_c1, .slice x0_A2 aF.assumed.length x0_c2, .slice x0_A3 aF.bad.length x0_c3] 52)) w4.heap.size 52 #[.int .i64 aF.beliefs.nodes, .slice x0_A1 aF.beliefs.reasons.length x0_c1, .slice x0_A2 aF.assumed.length x0_c2, .slice x0_A3 aF.bad.length x0_c3]) := Blk.new _ _ _
  have f_x0_0 := K_x0.out.at (i := 0) rfl
  have f_x0_1 := K_x0.out.at (i := 1) rfl
  have f_x0_2 := K_x0.out.at (i := 2) rfl
  have f_x0_3 := K_x0.out.at (i := 3) rfl
  clear hb
  go_wp2_with fail
  refine (iNogoodsOf_std hi0 _ [.int .i64 aF.beliefs.nodes, .slice x0_A1 aF.beliefs.reasons.length x0_c1, .slice x0_A2 aF.assumed.length x0_c2, .slice x0_A3 aF.bad.length x0_c3] L_x0 V_x0.out.rep).mono ?_
  rintro e w6 ⟨v, rfl, acc⟩
  obtain ⟨A_g0, c_g0, rfl⟩ := acc.shape
  have hb := acc.below
  obtain ⟨L_g0, gt⟩ := acc.got
  have B6 := Lib.hid (B5.out.trans (hb.mono B5.out.size))
  have sz6 := hb.size
  have V_w0 := Lib.hid (V_w0.out.later hb)
  have V_x0 := Lib.hid (V_x0.out.later hb)
  have K_aF := Lib.hid (K_aF.out.later hb)
  clear f_aF_0 f_aF_1 f_aF_2 f_aF_3
  have f_aF_0 := K_aF.out.at (i := 0) rfl
  have f_aF_1 := K_aF.out.at (i := 1) rfl
  have f_aF_2 := K_aF.out.at (i := 2) rfl
  have f_aF_3 := K_aF.out.at (i := 3) rfl
  have K_x0 := Lib.hid (K_x0.out.later hb)
  clear f_x0_0 f_x0_1 f_x0_2 f_x0_3
  have f_x0_0 := K_x0.out.at (i := 0) rfl
  have f_x0_1 := K_x0.out.at (i := 1) rfl
  have f_x0_2 := K_x0.out.at (i := 2) rfl
  have f_x0_3 := K_x0.out.at (i := 3) rfl
  clear B5
  have V_g0 := Lib.hid gt
  have ge_g0 := Lib.hid gt.own.ge
  have lt_g0 := Lib.hid gt.lt
  clear gt hb acc
  go_wp2_with fail
  refine (eqIntS_any A_g0 A_w0 _ c_g0 c_w0 _ L_g0 L_w0 _ rfl (by omega) (sliceC_out V_g0.out.rep).2.2 (sliceC_out V_w0.out.rep).2.2).mono ?_
  rintro e w7 ⟨rfl, hb⟩
  have B7 := Lib.hid (B6.out.trans (hb.mono B6.out.size))
  have sz7 := hb.size
  have V_w0 := Lib.hid (V_w0.out.later hb)
  have V_x0 := Lib.hid (V_x0.out.later hb)
  have V_g0 := Lib.hid (V_g0.out.later hb)
  have K_aF := Lib.hid (K_aF.out.later hb)
  clear f_aF_0 f_aF_1 f_aF_2 f_aF_3
  have f_aF_0 := K_aF.out.at (i := 0) rfl
  have f_aF_1 := K_aF.out.at (i := 1) rfl
  have f_aF_2 := K_aF.out.at (i := 2) rfl
  have f_aF_3 := K_aF.out.at (i := 3) rfl
  have K_x0 := Lib.hid (K_x0.out.later hb)
  clear f_x0_0 f_x0_1 f_x0_2 f_x0_3
  have f_x0_0 := K_x0.out.at (i := 0) rfl
  have f_x0_1 := K_x0.out.at (i := 1) rfl
  have f_x0_2 := K_x0.out.at (i := 2) rfl
  have f_x0_3 := K_x0.out.at (i := 3) rfl
  clear B6
  clear hb
  go_wp2_with fail
  go_region_held3 (fun W => W.cell? ⟨w4.heap.size, 0, none⟩ = some (.int .i64 aF.beliefs.nodes) ∧ W.cell? ⟨w4.heap.size, 1, none⟩ = some (.slice x0_A1 aF.beliefs.reasons.length x0_c1) ∧ W.cell? ⟨w4.heap.size, 2, none⟩ = some (.slice x0_A2 aF.assumed.length x0_c2) ∧ W.cell? ⟨w4.heap.size, 3, none⟩ = some (.slice x0_A3 aF.bad.length x0_c3) ∧ W.cell? ⟨w.heap.size, 0, none⟩ = some (.int .i64 aF.beliefs.nodes) ∧ W.cell? ⟨w.heap.size, 1, none⟩ = some (.slice aF_A1 aF.beliefs.reasons.length aF_c1) ∧ W.cell? ⟨w.heap.size, 2, none⟩ = some (.slice aF_A2 aF.assumed.length aF_c2) ∧ W.cell? ⟨w.heap.size, 3, none⟩ = some (.slice aF_A3 aF.bad.length aF_c3)) (first | exact ⟨f_x0_0, f_x0_1, f_x0_2, f_x0_3, f_aF_0, f_aF_1, f_aF_2, f_aF_3⟩ | exact ⟨r_x0_0, r_x0_1, r_x0_2, r_x0_3, r_aF_0, r_aF_1, r_aF_2, r_aF_3⟩) (first | (go_at_call 27; refine (toFrame_any [.int .i64 aF.beliefs.nodes, .slice aF_A1 aF.beliefs.reasons.length aF_c1, .slice aF_A2 aF.assumed.length aF_c2, .slice aF_A3 aF.bad.length aF_c3] aF L_aF _ cz_aF (cFrame.keep H_aF.out (keep_below B7.out.drew (cFrame.lt H_aF.out)))).mono ?_; rintro e w8 ⟨cs, L_t7aF, rfl, gt, hb⟩; obtain ⟨t7aF_A1, t7aF_c1, t7aF_A2, t7aF_c2, t7aF_A3, t7aF_c3, rfl⟩ := cFrame_cells gt.rep; replace hb := below_of_drew0 hb (Nat.le_refl _); have KA := K_aF.out.later hb; have KX := K_x0.out.later hb; have r_x0_0 := KX.at (i := 0) rfl; have r_x0_1 := KX.at (i := 1) rfl; have r_x0_2 := KX.at (i := 2) rfl; have r_x0_3 := KX.at (i := 3) rfl; have r_aF_0 := KA.at (i := 0) rfl; have r_aF_1 := KA.at (i := 1) rfl; have r_aF_2 := KA.at (i := 2) rfl; have r_aF_3 := KA.at (i := 3) rfl) | (go_at_call 30; refine (eqFrame_any [.int .i64 aF.beliefs.nodes, .slice x0_A1 aF.beliefs.reasons.length x0_c1, .slice x0_A2 aF.assumed.length x0_c2, .slice x0_A3 aF.bad.length x0_c3] [.int .i64 aF.beliefs.nodes, .slice t7aF_A1 aF.beliefs.reasons.length t7aF_c1, .slice t7aF_A2 aF.assumed.length t7aF_c2, .slice t7aF_A3 aF.bad.length t7aF_c3] aF L_x0 L_t7aF _ (V_x0.out.later hb).rep gt.rep).mono ?_; rintro e w9 ⟨rfl, hb2⟩; have KX2 := KX.later hb2; have KA2 := KA.later hb2; replace r_x0_0 := KX2.at (i := 0) rfl; replace r_x0_1 := KX2.at (i := 1) rfl; replace r_x0_2 := KX2.at (i := 2) rfl; replace r_x0_3 := KX2.at (i := 3) rfl; replace r_aF_0 := KA2.at (i := 0) rfl; replace r_aF_1 := KA2.at (i := 1) rfl; replace r_aF_2 := KA2.at (i := 2) rfl; replace r_aF_3 := KA2.at (i := 3) rfl))
  clear KA KX KA2 KX2 r_x0_0 r_x0_1 r_x0_2 r_x0_3 r_aF_0 r_aF_1 r_aF_2 r_aF_3
  have B8 := Lib.hid (B7.out.trans (hb.mono B7.out.size))
  have sz8 := hb.size
  have V_w0 := Lib.hid (V_w0.out.later hb)
  have V_x0 := Lib.hid (V_x0.out.later hb)
  have V_g0 := Lib.hid (V_g0.out.later hb)
  have K_aF := Lib.hid (K_aF.out.later hb)
  clear f_aF_0 f_aF_1 f_aF_2 f_aF_3
  have f_aF_0 := K_aF.out.at (i := 0) rfl
  have f_aF_1 := K_aF.out.at (i := 1) rfl
  have f_aF_2 := K_aF.out.at (i := 2) rfl
  have f_aF_3 := K_aF.out.at (i := 3) rfl
  have K_x0 := Lib.hid (K_x0.out.later hb)
  clear f_x0_0 f_x0_1 f_x0_2 f_x0_3
  have f_x0_0 := K_x0.out.at (i := 0) rfl
  have f_x0_1 := K_x0.out.at (i := 1) rfl
  have f_x0_2 := K_x0.out.at (i := 2) rfl
  have f_x0_3 := K_x0.out.at (i := 3) rfl
  clear B7
  clear hb gt
  have B9 := Lib.hid (B8.out.trans (hb2.mono B8.out.size))
  have sz9 := hb2.size
  have V_w0 := Lib.hid (V_w0.out.later hb2)
  have V_x0 := Lib.hid (V_x0.out.later hb2)
  have V_g0 := Lib.hid (V_g0.out.later hb2)
  have K_aF := Lib.hid (K_aF.out.later hb2)
  clear f_aF_0 f_aF_1 f_aF_2 f_aF_3
  have f_aF_0 := K_aF.out.at (i := 0) rfl
  have f_aF_1 := K_aF.out.at (i := 1) rfl
  have f_aF_2 := K_aF.out.at (i := 2) rfl
  have f_aF_3 := K_aF.out.at (i := 3) rfl
  have K_x0 := Lib.hid (K_x0.out.later hb2)
  clear f_x0_0 f_x0_1 f_x0_2 f_x0_3
  have f_x0_0 := K_x0.out.at (i := 0) rfl
  have f_x0_1 := K_x0.out.at (i := 1) rfl
  have f_x0_2 := K_x0.out.at (i := 2) rfl
  have f_x0_3 := K_x0.out.at (i := 3) rfl
  clear B8
  clear hb2
  have nl_x0_9 := vnextFrame_le ((1 : Int)) aF
  have nb_x0_9 : vnextFrame ((1 : Int)) aF ≤ 4611686018427387904 := by omega
  have ng_x0_9 := vnextFrame_ge ((1 : Int)) aF
  go_wp2_with fail
  refine (markFrame_any _ aF L_x0 _ _ _ (by omega) (by omega) V_x0.out).mono ?_
  rintro e w10 ⟨rfl, gm, on⟩
  have B10 := Lib.hid (B9.out.trans (on.below B9.out.size (fun y m => by have := ge_x0.out y m; omega)))
  have sz10 := on.size
  have V_w0 := Lib.hid (V_w0.out.only on (fun y m m' => by have := lt_w0.out y m; have := ge_x0.out y m'; omega))
  have V_g0 := Lib.hid (V_g0.out.only on (fun y m m' => by have := ge_g0.out y m; have := lt_x0.out y m'; omega))
  have K_aF := Lib.hid (blk_only K_aF.out on (fun m => by have := ge_x0.out _ m; have := lt_x0.out _ m; omega))
  clear f_aF_0 f_aF_1 f_aF_2 f_aF_3
  have f_aF_0 := K_aF.out.at (i := 0) rfl
  have f_aF_1 := K_aF.out.at (i := 1) rfl
  have f_aF_2 := K_aF.out.at (i := 2) rfl
  have f_aF_3 := K_aF.out.at (i := 3) rfl
  have K_x0 := Lib.hid (blk_only K_x0.out on (fun m => by have := ge_x0.out _ m; have := lt_x0.out _ m; omega))
  clear f_x0_0 f_x0_1 f_x0_2 f_x0_3
  have f_x0_0 := K_x0.out.at (i := 0) rfl
  have f_x0_1 := K_x0.out.at (i := 1) rfl
  have f_x0_2 := K_x0.out.at (i := 2) rfl
  have f_x0_3 := K_x0.out.at (i := 3) rfl
  clear B9
  have V_x0 := Lib.hid gm
  clear gm on
  clear V_x0
  have kn : ¬ (vnextFrame ((1 : Int)) aF < 0) := by omega
  go_wp2_with fail
  refine (eqIntS_any A_g0 A_w0 _ c_g0 c_w0 _ L_g0 L_w0 _ rfl (by omega) (sliceC_out V_g0.out.rep).2.2 (sliceC_out V_w0.out.rep).2.2).mono ?_
  rintro e w11 ⟨rfl, hb⟩
  have B11 := Lib.hid (B10.out.trans (hb.mono B10.out.size))
  have sz11 := hb.size
  have V_w0 := Lib.hid (V_w0.out.later hb)
  have V_g0 := Lib.hid (V_g0.out.later hb)
  have K_aF := Lib.hid (K_aF.out.later hb)
  clear f_aF_0 f_aF_1 f_aF_2 f_aF_3
  have f_aF_0 := K_aF.out.at (i := 0) rfl
  have f_aF_1 := K_aF.out.at (i := 1) rfl
  have f_aF_2 := K_aF.out.at (i := 2) rfl
  have f_aF_3 := K_aF.out.at (i := 3) rfl
  have K_x0 := Lib.hid (K_x0.out.later hb)
  clear f_x0_0 f_x0_1 f_x0_2 f_x0_3
  have f_x0_0 := K_x0.out.at (i := 0) rfl
  have f_x0_1 := K_x0.out.at (i := 1) rfl
  have f_x0_2 := K_x0.out.at (i := 2) rfl
  have f_x0_3 := K_x0.out.at (i := 3) rfl
  clear B10
  clear hb
  have nl_g0_11 : nextIntS ((1 : Int)) R0 = ((1 : Int)) + R0.length := rfl
  have nb_g0_11 : nextIntS ((1 : Int)) R0 ≤ 4611686018427387904 := by omega
  have ng_g0_11 := nextIntS_ge ((1 : Int)) R0
  go_wp2_with fail
  refine (markIntS_any A_g0 _ c_g0 R0 L_g0 _ _ _ rfl (by omega) (by omega) V_g0.out).mono ?_
  rintro e w12 ⟨rfl, gm, on⟩
  have B12 := Lib.hid (B11.out.trans (on.below B11.out.size (fun y m => by have := ge_g0.out y m; omega)))
  have sz12 := on.size
  have V_w0 := Lib.hid (V_w0.out.only on (fun y m m' => by have := lt_w0.out y m; have := ge_g0.out y m'; omega))
  have K_aF := Lib.hid (blk_only K_aF.out on (fun m => by have := ge_g0.out _ m; have := lt_g0.out _ m; omega))
  clear f_aF_0 f_aF_1 f_aF_2 f_aF_3
  have f_aF_0 := K_aF.out.at (i := 0) rfl
  have f_aF_1 := K_aF.out.at (i := 1) rfl
  have f_aF_2 := K_aF.out.at (i := 2) rfl
  have f_aF_3 := K_aF.out.at (i := 3) rfl
  have K_x0 := Lib.hid (blk_only K_x0.out on (fun m => by have := ge_g0.out _ m; have := lt_g0.out _ m; omega))
  clear f_x0_0 f_x0_1 f_x0_2 f_x0_3
  have f_x0_0 := K_x0.out.at (i := 0) rfl
  have f_x0_1 := K_x0.out.at (i := 1) rfl
  have f_x0_2 := K_x0.out.at (i := 2) rfl
  have f_x0_3 := K_x0.out.at (i := 3) rfl
  clear B11
  have V_g0 := Lib.hid gm
  clear gm on
  go_wp2_with fail
  refine (heldIntS_any A_g0 _ c_g0 R0 L_g0 _ _ rfl (by omega) (by omega) (sliceC_out V_g0.out.rep).2.2).mono ?_
  rintro e w13 ⟨rfl, hb⟩
  have B13 := Lib.hid (B12.out.trans (hb.mono B12.out.size))
  have sz13 := hb.size
  have V_w0 := Lib.hid (V_w0.out.later hb)
  have V_g0 := Lib.hid (V_g0.out.later hb)
  have K_aF := Lib.hid (K_aF.out.later hb)
  clear f_aF_0 f_aF_1 f_aF_2 f_aF_3
  have f_aF_0 := K_aF.out.at (i := 0) rfl
  have f_aF_1 := K_aF.out.at (i := 1) rfl
  have f_aF_2 := K_aF.out.at (i := 2) rfl
  have f_aF_3 := K_aF.out.at (i := 3) rfl
  have K_x0 := Lib.hid (K_x0.out.later hb)
  clear f_x0_0 f_x0_1 f_x0_2 f_x0_3
  have f_x0_0 := K_x0.out.at (i := 0) rfl
  have f_x0_1 := K_x0.out.at (i := 1) rfl
  have f_x0_2 := K_x0.out.at (i := 2) rfl
  have f_x0_3 := K_x0.out.at (i := 3) rfl
  clear B12
  clear hb
  have qn13 : ¬ (nextIntS ((1 : Int)) R0 < 0) := by omega
  have qm13 : ((nextIntS ((1 : Int)) R0) != (nextIntS ((1 : Int)) R0)) = false := by simp
  go_wp2_with fail
  refine (toFrame_any [.int .i64 aF.beliefs.nodes, .slice aF_A1 aF.beliefs.reasons.length aF_c1, .slice aF_A2 aF.assumed.length aF_c2, .slice aF_A3 aF.bad.length aF_c3] aF L_aF _ cz_aF (cFrame.keep H_aF.out (keep_below B13.out (cFrame.lt H_aF.out)))).mono ?_
  rintro e w14 ⟨cs, L_t13aF, rfl, gt, hb⟩
  obtain ⟨t13aF_A1, t13aF_c1, t13aF_A2, t13aF_c2, t13aF_A3, t13aF_c3, rfl⟩ := cFrame_cells gt.rep
  have B14 := Lib.hid (B13.out.trans (hb.mono B13.out.size))
  have sz14 := hb.size
  have V_w0 := Lib.hid (V_w0.out.later hb)
  have V_g0 := Lib.hid (V_g0.out.later hb)
  have K_aF := Lib.hid (K_aF.out.later hb)
  clear f_aF_0 f_aF_1 f_aF_2 f_aF_3
  have f_aF_0 := K_aF.out.at (i := 0) rfl
  have f_aF_1 := K_aF.out.at (i := 1) rfl
  have f_aF_2 := K_aF.out.at (i := 2) rfl
  have f_aF_3 := K_aF.out.at (i := 3) rfl
  have K_x0 := Lib.hid (K_x0.out.later hb)
  clear f_x0_0 f_x0_1 f_x0_2 f_x0_3
  have f_x0_0 := K_x0.out.at (i := 0) rfl
  have f_x0_1 := K_x0.out.at (i := 1) rfl
  have f_x0_2 := K_x0.out.at (i := 2) rfl
  have f_x0_3 := K_x0.out.at (i := 3) rfl
  clear B13
  have V_t13aF := Lib.hid gt
  have ge_t13aF := Lib.hid gt.own.ge
  have lt_t13aF := Lib.hid gt.lt
  clear gt hb
  go_wp2_with fail
  refine (iNogoodsOf_std hi0 _ [.int .i64 aF.beliefs.nodes, .slice t13aF_A1 aF.beliefs.reasons.length t13aF_c1, .slice t13aF_A2 aF.assumed.length t13aF_c2, .slice t13aF_A3 aF.bad.length t13aF_c3] L_t13aF V_t13aF.out.rep).mono ?_
  rintro e w15 ⟨v, rfl, acc⟩
  obtain ⟨A_h0, c_h0, rfl⟩ := acc.shape
  have hb := acc.below
  obtain ⟨L_h0, gt⟩ := acc.got
  have B15 := Lib.hid (B14.out.trans (hb.mono B14.out.size))
  have sz15 := hb.size
  have V_w0 := Lib.hid (V_w0.out.later hb)
  have V_g0 := Lib.hid (V_g0.out.later hb)
  have V_t13aF := Lib.hid (V_t13aF.out.later hb)
  have K_aF := Lib.hid (K_aF.out.later hb)
  clear f_aF_0 f_aF_1 f_aF_2 f_aF_3
  have f_aF_0 := K_aF.out.at (i := 0) rfl
  have f_aF_1 := K_aF.out.at (i := 1) rfl
  have f_aF_2 := K_aF.out.at (i := 2) rfl
  have f_aF_3 := K_aF.out.at (i := 3) rfl
  have K_x0 := Lib.hid (K_x0.out.later hb)
  clear f_x0_0 f_x0_1 f_x0_2 f_x0_3
  have f_x0_0 := K_x0.out.at (i := 0) rfl
  have f_x0_1 := K_x0.out.at (i := 1) rfl
  have f_x0_2 := K_x0.out.at (i := 2) rfl
  have f_x0_3 := K_x0.out.at (i := 3) rfl
  clear B14
  have V_h0 := Lib.hid gt
  have ge_h0 := Lib.hid gt.own.ge
  have lt_h0 := Lib.hid gt.lt
  clear gt hb acc
  clear V_t13aF
  go_wp2_with fail
  refine (eqIntS_any A_h0 A_w0 _ c_h0 c_w0 _ L_h0 L_w0 _ rfl (by omega) (sliceC_out V_h0.out.rep).2.2 (sliceC_out V_w0.out.rep).2.2).mono ?_
  rintro e w16 ⟨rfl, hb⟩
  have B16 := Lib.hid (B15.out.trans (hb.mono B15.out.size))
  have sz16 := hb.size
  have V_w0 := Lib.hid (V_w0.out.later hb)
  have V_g0 := Lib.hid (V_g0.out.later hb)
  have V_h0 := Lib.hid (V_h0.out.later hb)
  have K_aF := Lib.hid (K_aF.out.later hb)
  clear f_aF_0 f_aF_1 f_aF_2 f_aF_3
  have f_aF_0 := K_aF.out.at (i := 0) rfl
  have f_aF_1 := K_aF.out.at (i := 1) rfl
  have f_aF_2 := K_aF.out.at (i := 2) rfl
  have f_aF_3 := K_aF.out.at (i := 3) rfl
  have K_x0 := Lib.hid (K_x0.out.later hb)
  clear f_x0_0 f_x0_1 f_x0_2 f_x0_3
  have f_x0_0 := K_x0.out.at (i := 0) rfl
  have f_x0_1 := K_x0.out.at (i := 1) rfl
  have f_x0_2 := K_x0.out.at (i := 2) rfl
  have f_x0_3 := K_x0.out.at (i := 3) rfl
  clear B15
  clear hb
  go_wp2_with fail
  refine (heldIntS_any A_g0 _ c_g0 R0 L_g0 _ _ rfl (by omega) (by omega) (sliceC_out V_g0.out.rep).2.2).mono ?_
  rintro e w17 ⟨rfl, hb⟩
  have B17 := Lib.hid (B16.out.trans (hb.mono B16.out.size))
  have sz17 := hb.size
  have V_w0 := Lib.hid (V_w0.out.later hb)
  have V_g0 := Lib.hid (V_g0.out.later hb)
  have V_h0 := Lib.hid (V_h0.out.later hb)
  have K_aF := Lib.hid (K_aF.out.later hb)
  clear f_aF_0 f_aF_1 f_aF_2 f_aF_3
  have f_aF_0 := K_aF.out.at (i := 0) rfl
  have f_aF_1 := K_aF.out.at (i := 1) rfl
  have f_aF_2 := K_aF.out.at (i := 2) rfl
  have f_aF_3 := K_aF.out.at (i := 3) rfl
  have K_x0 := Lib.hid (K_x0.out.later hb)
  clear f_x0_0 f_x0_1 f_x0_2 f_x0_3
  have f_x0_0 := K_x0.out.at (i := 0) rfl
  have f_x0_1 := K_x0.out.at (i := 1) rfl
  have f_x0_2 := K_x0.out.at (i := 2) rfl
  have f_x0_3 := K_x0.out.at (i := 3) rfl
  clear B16
  clear hb
  have qn17 : ¬ (nextIntS ((1 : Int)) R0 < 0) := by omega
  have qm17 : ((nextIntS ((1 : Int)) R0) != (nextIntS ((1 : Int)) R0)) = false := by simp
  go_wp2_with fail
  go_ret
  exact ⟨rfl, B17.out⟩

end Go.Proofs.Ytccbhhglghboaaa

namespace Go.Proofs.Ytccbhhglghboaaa
open Go.RowKit

def wfReason (x : ReasonD) : Prop := wfInt x.for_ ∧ (fun ds => ∀ d ∈ ds, wfInt d) x.inn ∧ (fun ds => ∀ d ∈ ds, wfInt d) x.outs
set_option maxRecDepth 100000 in
theorem opensReason : Opens Try.prog 173 cReason wfReason := by
  intro H enc w base spare held fuel cs x h
  obtain ⟨xs, n, _, _, hlen, hxl, hf⟩ := DataW.trod_struct Try.underlying173 h
  have hl : cs.length = 3 := hlen.trans (by kernel_rfl)
  have hx : xs.length = 3 := hxl
  match cs, hl with
  | [a0, a1, a2], _ =>
    have f0 : DataW.trod enc Try.prog w base spare held n 3 [a0] = some (xs[0]'(by omega)) := by
      have this : DataW.trod enc Try.prog w base spare held n 3 (List.take (Try.prog.cellsOf 3) (List.drop 0 [a0, a1, a2])) = _ := (hf 0 _ rfl).trans (List.getElem?_eq_getElem (show 0 < xs.length by omega))
      rw [show Try.prog.cellsOf 3 = 1 by kernel_rfl] at this
      exact this
    have f1 : DataW.trod enc Try.prog w base spare held n 43 [a1] = some (xs[1]'(by omega)) := by
      have this : DataW.trod enc Try.prog w base spare held n 43 (List.take (Try.prog.cellsOf 43) (List.drop 1 [a0, a1, a2])) = _ := (hf 1 _ rfl).trans (List.getElem?_eq_getElem (show 1 < xs.length by omega))
      rw [show Try.prog.cellsOf 43 = 1 by kernel_rfl] at this
      exact this
    have f2 : DataW.trod enc Try.prog w base spare held n 43 [a2] = some (xs[2]'(by omega)) := by
      have this : DataW.trod enc Try.prog w base spare held n 43 (List.take (Try.prog.cellsOf 43) (List.drop 2 [a0, a1, a2])) = _ := (hf 2 _ rfl).trans (List.getElem?_eq_getElem (show 2 < xs.length by omega))
      rw [show Try.prog.cellsOf 43 = 1 by kernel_rfl] at this
      exact this
    obtain ⟨d0, M0, r0, w0⟩ := (opens_int Try.underlying3) f0
    obtain ⟨e0, _⟩ := r0
    cases e0
    obtain ⟨d1, M1, r1, w1⟩ := (opens_slice Try.underlying43 (by kernel_rfl) (opens_int Try.underlying3)) f1
    obtain ⟨A1, c1, e1, n1, m1, s1⟩ := r1
    cases e1
    obtain ⟨d2, M2, r2, w2⟩ := (opens_slice Try.underlying43 (by kernel_rfl) (opens_int Try.underlying3)) f2
    obtain ⟨A2, c2, e2, n2, m2, s2⟩ := r2
    cases e2
    exact ⟨⟨d0, d1, d2⟩, _, ⟨A1, c1, M1, A2, c2, M2, rfl, rfl, n1, m1, s1, n2, m2, s2⟩, ⟨w0, w1, w2⟩⟩

def wfBeliefs (x : BeliefsD) : Prop := wfInt x.nodes ∧ (fun ds => ∀ d ∈ ds, wfReason d) x.reasons
set_option maxRecDepth 100000 in
theorem opensBeliefs : Opens Try.prog 42 cBeliefs wfBeliefs := by
  intro H enc w base spare held fuel cs x h
  obtain ⟨xs, n, _, _, hlen, hxl, hf⟩ := DataW.trod_struct Try.underlying42 h
  have hl : cs.length = 2 := hlen.trans (by kernel_rfl)
  have hx : xs.length = 2 := hxl
  match cs, hl with
  | [a0, a1], _ =>
    have f0 : DataW.trod enc Try.prog w base spare held n 3 [a0] = some (xs[0]'(by omega)) := by
      have this : DataW.trod enc Try.prog w base spare held n 3 (List.take (Try.prog.cellsOf 3) (List.drop 0 [a0, a1])) = _ := (hf 0 _ rfl).trans (List.getElem?_eq_getElem (show 0 < xs.length by omega))
      rw [show Try.prog.cellsOf 3 = 1 by kernel_rfl] at this
      exact this
    have f1 : DataW.trod enc Try.prog w base spare held n 40 [a1] = some (xs[1]'(by omega)) := by
      have this : DataW.trod enc Try.prog w base spare held n 40 (List.take (Try.prog.cellsOf 40) (List.drop 1 [a0, a1])) = _ := (hf 1 _ rfl).trans (List.getElem?_eq_getElem (show 1 < xs.length by omega))
      rw [show Try.prog.cellsOf 40 = 1 by kernel_rfl] at this
      exact this
    obtain ⟨d0, M0, r0, w0⟩ := (opens_int Try.underlying3) f0
    obtain ⟨e0, _⟩ := r0
    cases e0
    obtain ⟨d1, M1, r1, w1⟩ := (opens_slice Try.underlying40 (by kernel_rfl) opensReason) f1
    obtain ⟨A1, c1, e1, n1, m1, s1⟩ := r1
    cases e1
    exact ⟨⟨d0, d1⟩, _, ⟨A1, c1, M1, rfl, rfl, n1, m1, s1⟩, ⟨w0, w1⟩⟩

def wfFrame (x : FrameD) : Prop := wfBeliefs x.beliefs ∧ (fun ds => ∀ d ∈ ds, wfInt d) x.assumed ∧ (fun ds => ∀ d ∈ ds, wfInt d) x.bad
set_option maxRecDepth 100000 in
theorem opensFrame : Opens Try.prog 45 cFrame wfFrame := by
  intro H enc w base spare held fuel cs x h
  obtain ⟨xs, n, _, _, hlen, hxl, hf⟩ := DataW.trod_struct Try.underlying45 h
  have hl : cs.length = 4 := hlen.trans (by kernel_rfl)
  have hx : xs.length = 3 := hxl
  match cs, hl with
  | [a0, a1, a2, a3], _ =>
    have f0 : DataW.trod enc Try.prog w base spare held n 42 [a0, a1] = some (xs[0]'(by omega)) := by
      have this : DataW.trod enc Try.prog w base spare held n 42 (List.take (Try.prog.cellsOf 42) (List.drop 0 [a0, a1, a2, a3])) = _ := (hf 0 _ rfl).trans (List.getElem?_eq_getElem (show 0 < xs.length by omega))
      rw [show Try.prog.cellsOf 42 = 2 by kernel_rfl] at this
      exact this
    have f1 : DataW.trod enc Try.prog w base spare held n 43 [a2] = some (xs[1]'(by omega)) := by
      have this : DataW.trod enc Try.prog w base spare held n 43 (List.take (Try.prog.cellsOf 43) (List.drop 2 [a0, a1, a2, a3])) = _ := (hf 1 _ rfl).trans (List.getElem?_eq_getElem (show 1 < xs.length by omega))
      rw [show Try.prog.cellsOf 43 = 1 by kernel_rfl] at this
      exact this
    have f2 : DataW.trod enc Try.prog w base spare held n 43 [a3] = some (xs[2]'(by omega)) := by
      have this : DataW.trod enc Try.prog w base spare held n 43 (List.take (Try.prog.cellsOf 43) (List.drop 3 [a0, a1, a2, a3])) = _ := (hf 2 _ rfl).trans (List.getElem?_eq_getElem (show 2 < xs.length by omega))
      rw [show Try.prog.cellsOf 43 = 1 by kernel_rfl] at this
      exact this
    obtain ⟨d0, M0, r0, w0⟩ := opensBeliefs f0
    obtain ⟨A1, c1, N1, e0, g0, n1, m1, s1⟩ := r0
    cases e0
    subst g0
    obtain ⟨d1, M1, r1, w1⟩ := (opens_slice Try.underlying43 (by kernel_rfl) (opens_int Try.underlying3)) f1
    obtain ⟨A2, c2, e1, n2, m2, s2⟩ := r1
    cases e1
    obtain ⟨d2, M2, r2, w2⟩ := (opens_slice Try.underlying43 (by kernel_rfl) (opens_int Try.underlying3)) f2
    obtain ⟨A3, c3, e2, n3, m3, s3⟩ := r2
    cases e2
    exact ⟨⟨d0, d1, d2⟩, _, ⟨A1, c1, M0, A2, c2, M1, A3, c3, M2, rfl, rfl, n1, m1, s1, n2, m2, s2, n3, m3, s3⟩, ⟨w0, w1, w2⟩⟩

end Go.Proofs.Ytccbhhglghboaaa
