/- Contracts of the law files' sz.. functions. Printed by gen.py. -/
import Derived.Test.YtfmplnebdldpdaaProg
import Derived.Test.YtfmplnebdldpdaaTypes
import Derived.Outline
import Derived.WalkSpells
import Derived.StillTailTactics
namespace Go.Proofs.Ytfmplnebdldpdaa
open Go.RowKit

set_option maxHeartbeats 400000 in
theorem szStringS_any (A : Option Addr) (n c : Nat) (ds : List ByteArray) (L : List Nat) (left : Int) (w : World) (hn : n = ds.length) (hm : n ≤ 9223372036854775807) (h0 : 0 ≤ left) (h1 : left ≤ 1048576) (h : Sli strC w A ds L) :
    Calls Try.prog 59 #[.slice A n c, .int .i64 left] w (SzPost (costStrs ds) left w) := by
  have H := Lib.hid h
  have HN := Lib.hid hn
  clear h hn
  by_cases hlen : (n : Int) ≤ left
  · go_enter Try.func59, Try.ntmps59
    go_wp2
    go_loop [1, 5] (fun q i => ∃ (k : Nat) (l : Int), k ≤ n ∧ i = .int .i64 k ∧ q = .int .i64 l ∧ 0 ≤ l ∧ l ≤ left ∧ Hid (szR ((ds.drop k).map ByteArray.size).sum l = szR (costStrs ds) left)) (fun _ i => n - (intOf i).toNat)
    case atStart => exact ⟨0, left - n, Nat.zero_le _, rfl, rfl, by omega, by omega, Lib.hid (by
        have e := HN.out
        exact szR_step _ _ _ _ (by omega) (by simp [costStrs]; omega))⟩
    case round =>
      obtain ⟨k, l, hk, rfl, rfl, hl0, hl1, HE⟩ := hrel
      by_cases hlt : k < n
      · obtain ⟨b, off, cs, Lk, rfl, _, _, hrep, hc⟩ := H.out.at_ (show k < ds.length by have := HN.out; omega)
        obtain ⟨rfl, _, hss⟩ := str_rep hrep
        have hc0 := hc 0 _ rfl
        clear hc hrep
        have hd : Hid (ds.drop k = ds[k]'(by have := HN.out; omega) :: ds.drop (k + 1)) := List.drop_eq_getElem_cons _
        generalize ds[k]'(by have := HN.out; omega) = s at hc0 hd hss
        simp only [show strC.size = 1 from rfl, Nat.mul_one, Nat.add_zero] at hc0
        by_cases hs : (s.size : Int) ≤ l
        · go_wp2
          go_round
          case rel => exact ⟨k + 1, l - s.size, by omega, by go_num, rfl, by omega, by omega, Lib.hid (by rw [← HE.out, hd.out]; exact szR_step _ _ _ _ (by omega) (by simp))⟩
          case measure => simp [intOf]; omega
        · go_wp2
          go_ret
          exact ⟨ret_i (by rw [← HE.out, hd.out, szR_neg (by simp; omega)]), Below.refl _ _⟩
      · go_wp2
        go_ret
        exact ⟨ret_i (by rw [← HE.out, List.drop_of_length_le (by have := HN.out; omega)]; simp [szR, hl0]), Below.refl _ _⟩
  · go_enter Try.func59, Try.ntmps59
    go_wp2
    go_ret
    exact ⟨ret_i (by rw [szR_neg (by have := HN.out; simp [costStrs]; omega)]), Below.refl _ _⟩

set_option maxHeartbeats 400000 in
theorem szIntS_any (A : Option Addr) (n c : Nat) (left : Int) (w : World) (hm : n ≤ 9223372036854775807) (h0 : 0 ≤ left) (h1 : left ≤ 1048576) :
    Calls Try.prog 50 #[.slice A n c, .int .i64 left] w (SzPost n left w) := by
  by_cases hlen : (n : Int) ≤ left
  all_goals
    go_enter Try.func50, Try.ntmps50
    go_wp2
    go_ret
  · exact ⟨ret_i (by rw [szR_pos hlen]), Below.refl _ _⟩
  · exact ⟨ret_i (by rw [szR_neg (by omega)]), Below.refl _ _⟩


set_option maxHeartbeats 800000 in
theorem szFact_any (cs : List Value) (x : FactD) (L : List Nat) (left : Int) (w : World) (h0 : 0 ≤ left) (h1 : left ≤ 1048576) (h : cFact.rep w cs x L) :
    Calls Try.prog 49 #[.agg cs.toArray, .int .i64 left] w (SzPost (costFact x) left w) := by
  obtain ⟨A1, c1, L1, rfl, _hL, t0, n1, m1, s1⟩ := h
  unfold maxLen at m1
  have S1 := Lib.hid s1
  clear s1
  have B0 : Hid (Below w.heap.size w (w.alloc (.cells #[.string x.rel, .slice A1 x.args.length c1] 49))) := (Below.refl _ _).alloc (Nat.le_refl _) _
  have K0 : Hid (Blk (w.alloc (.cells #[.string x.rel, .slice A1 x.args.length c1] 49)) w.heap.size 49 #[.string x.rel, .slice A1 x.args.length c1]) := Blk.new _ _ _
  go_enter Try.func49, Try.ntmps49
  by_cases k1 : (x.rel.size : Int) ≤ left
  rotate_left
  · go_wp2_with fail
    go_ret
    exact ⟨ret_i (by rw [szR_neg (by simp only [costFact]; omega)]), B0.out⟩
  go_wp2_with fail
  refine (szStringS_any A1 _ c1 x.args L1 _ _ rfl (by omega) (by omega) (by omega) (S1.out.below B0.out)).mono ?_
  rintro e w1 ⟨rfl, hb1⟩
  have B1 := Lib.hid (B0.out.trans (hb1.mono B0.out.size))
  have K1 := Lib.hid (K0.out.later hb1)
  have f0 := K1.out.at (i := 0) rfl
  have f1 := K1.out.at (i := 1) rfl
  clear hb1
  by_cases k2 : ((costStrs x.args : Nat) : Int) ≤ left - x.rel.size
  rotate_left
  · rw [szR_neg k2]
    go_wp2_with fail
    go_ret
    exact ⟨ret_i (by rw [szR_neg (by simp only [costFact]; omega)]), B1.out⟩
  rw [szR_pos k2]
  go_wp2_with fail
  go_ret
  exact ⟨ret_i (by rw [szR_pos (by simp only [costFact]; omega)]; simp only [costFact]; omega), B1.out⟩

set_option maxHeartbeats 800000 in
theorem szStep_any (cs : List Value) (x : StepD) (L : List Nat) (left : Int) (w : World) (h0 : 0 ≤ left) (h1 : left ≤ 1048576) (h : cStep.rep w cs x L) :
    Calls Try.prog 33 #[.agg cs.toArray, .int .i64 left] w (SzPost (costStep x) left w) := by
  obtain ⟨A1, c1, L1, A2, c2, L2, rfl, _hL, t0, t1, n1, m1, s1, n2, m2, s2⟩ := h
  unfold maxLen at m1 m2
  have S1 := Lib.hid s1
  clear s1
  have S2 := Lib.hid s2
  clear s2
  have B0 : Hid (Below w.heap.size w (w.alloc (.cells #[.string x.fact.rel, .slice A1 x.fact.args.length c1, .string x.rule, .slice A2 x.uses.length c2] 51))) := (Below.refl _ _).alloc (Nat.le_refl _) _
  have K0 : Hid (Blk (w.alloc (.cells #[.string x.fact.rel, .slice A1 x.fact.args.length c1, .string x.rule, .slice A2 x.uses.length c2] 51)) w.heap.size 51 #[.string x.fact.rel, .slice A1 x.fact.args.length c1, .string x.rule, .slice A2 x.uses.length c2]) := Blk.new _ _ _
  go_enter Try.func33, Try.ntmps33
  go_wp2_with fail
  refine (szFact_any [.string x.fact.rel, .slice A1 x.fact.args.length c1] x.fact _ _ _ (by omega) (by omega) ⟨A1, c1, L1, rfl, rfl, t0, n1, (by unfold maxLen; omega), S1.out.below B0.out⟩).mono ?_
  rintro e w1 ⟨rfl, hb1⟩
  have B1 := Lib.hid (B0.out.trans (hb1.mono B0.out.size))
  have K1 := Lib.hid (K0.out.later hb1)
  have f0 := K1.out.at (i := 0) rfl
  have f1 := K1.out.at (i := 1) rfl
  have f2 := K1.out.at (i := 2) rfl
  have f3 := K1.out.at (i := 3) rfl
  clear hb1
  by_cases k1 : ((costFact x.fact : Nat) : Int) ≤ left
  rotate_left
  · rw [szR_neg k1]
    go_wp2_with fail
    go_ret
    exact ⟨ret_i (by rw [szR_neg (by simp only [costStep]; omega)]), B1.out⟩
  rw [szR_pos k1]
  by_cases k2 : (x.rule.size : Int) ≤ left - (costFact x.fact : Nat)
  rotate_left
  · go_wp2_with fail
    go_ret
    exact ⟨ret_i (by rw [szR_neg (by simp only [costStep]; omega)]), B1.out⟩
  go_wp2_with fail
  refine (szIntS_any A2 _ c2 _ _ (by omega) (by omega) (by omega)).mono ?_
  rintro e w2 ⟨rfl, hb2⟩
  have B2 := Lib.hid (B1.out.trans (hb2.mono B1.out.size))
  have K2 := Lib.hid (K1.out.later hb2)
  clear f0 f1 f2 f3
  have f0 := K2.out.at (i := 0) rfl
  have f1 := K2.out.at (i := 1) rfl
  have f2 := K2.out.at (i := 2) rfl
  have f3 := K2.out.at (i := 3) rfl
  clear hb2
  by_cases k3 : ((x.uses.length : Nat) : Int) ≤ left - (costFact x.fact : Nat) - x.rule.size
  rotate_left
  · rw [szR_neg k3]
    go_wp2_with fail
    go_ret
    exact ⟨ret_i (by rw [szR_neg (by simp only [costStep]; omega)]), B2.out⟩
  rw [szR_pos k3]
  go_wp2_with fail
  go_ret
  exact ⟨ret_i (by rw [szR_pos (by simp only [costStep]; omega)]; simp only [costStep]; omega), B2.out⟩

set_option maxHeartbeats 800000 in
theorem szStepS_any (A : Option Addr) (n c : Nat) (ds : List StepD) (L : List Nat) (left : Int) (w : World) (hn : n = ds.length) (hm : n ≤ 9223372036854775807) (h0 : 0 ≤ left) (h1 : left ≤ 1048576) (h : Sli cStep w A ds L) :
    Calls Try.prog 9 #[.slice A n c, .int .i64 left] w (SzPost (costStepS ds) left w) := by
  have H := Lib.hid h
  have HN := Lib.hid hn
  clear h hn
  by_cases hlen : (n : Int) ≤ left
  · go_enter Try.func9, Try.ntmps9
    go_wp2
    go_loopw [1, 5] (fun q i wr => ∃ (k : Nat) (l : Int), k ≤ n ∧ i = .int .i64 k ∧ q = .int .i64 l ∧ 0 ≤ l ∧ l ≤ left ∧ Hid (Below w.heap.size w wr) ∧ Hid (szR ((ds.drop k).map costStep).sum l = szR (costStepS ds) left)) (fun _ i _ => n - (intOf i).toNat)
    case atStart => exact ⟨0, left - n, Nat.zero_le _, rfl, rfl, by omega, by omega, Below.refl _ _, Lib.hid (by
        have e := HN.out
        exact szR_step _ _ _ _ (by omega) (by simp only [costStepS, List.drop_zero]; omega))⟩
    case round =>
      obtain ⟨k, l, hk, rfl, rfl, hl0, hl1, HB, HE⟩ := hrel
      by_cases hlt : k < n
      · have hkl : k < ds.length := by have := HN.out; omega
        obtain ⟨b, off, cs, Lk, rfl, hbL, hLk, hrep, hc⟩ := H.out.at_ hkl
        have hbl : b < w.heap.size := H.out.lt b hbL
        have HR := Lib.hid (cStep.keep hrep (keep_below HB.out (fun y m => H.out.lt y (hLk y m))))
        obtain ⟨A1, c1, A2, c2, rfl⟩ := cStep_cells hrep
        have q0 : wr.cell? ⟨b, off + k * 4, none⟩ = _ := (HB.out.cell (p := ⟨b, off + (k * 4 + 0), none⟩) hbl).trans (hc 0 _ rfl)
        have q1 : wr.cell? ⟨b, off + k * 4 + 1, none⟩ = _ := (HB.out.cell (p := ⟨b, off + (k * 4 + 1), none⟩) hbl).trans (hc 1 _ rfl)
        have q2 : wr.cell? ⟨b, off + k * 4 + 2, none⟩ = _ := (HB.out.cell (p := ⟨b, off + (k * 4 + 2), none⟩) hbl).trans (hc 2 _ rfl)
        have q3 : wr.cell? ⟨b, off + k * 4 + 3, none⟩ = _ := (HB.out.cell (p := ⟨b, off + (k * 4 + 3), none⟩) hbl).trans (hc 3 _ rfl)
        have hd : Hid (ds.drop k = ds[k] :: ds.drop (k + 1)) := List.drop_eq_getElem_cons _
        generalize ds[k] = x at *
        clear hc hrep
        by_cases hs : (costStep x : Int) ≤ l
        · go_wp2_with (go_at_call 33; refine (szStep_any _ x Lk _ _ (by omega) (by omega) HR.out).mono ?_; rintro e w1 ⟨rfl, hb1⟩; rw [szR_pos hs]; have HB1 := Lib.hid (HB.out.trans (hb1.mono HB.out.size)); clear hb1)
          go_roundw
          case rel => exact ⟨k + 1, l - costStep x, by omega, by go_num, rfl, by omega, by omega, HB1.out, Lib.hid (by rw [← HE.out, hd.out]; exact szR_step _ _ _ _ (by omega) (by simp))⟩
          case measure => simp [intOf]; omega
        · go_wp2_with (go_at_call 33; refine (szStep_any _ x Lk _ _ (by omega) (by omega) HR.out).mono ?_; rintro e w1 ⟨rfl, hb1⟩; rw [szR_neg hs]; have HB1 := Lib.hid (HB.out.trans (hb1.mono HB.out.size)); clear hb1)
          go_ret
          exact ⟨ret_i (by rw [← HE.out, hd.out, szR_neg (by simp; omega)]), HB1.out⟩
      · go_wp2
        go_ret
        exact ⟨ret_i (by rw [← HE.out, List.drop_of_length_le (by have := HN.out; omega)]; simp [szR, hl0]), HB.out⟩
  · go_enter Try.func9, Try.ntmps9
    go_wp2
    go_ret
    exact ⟨ret_i (by rw [szR_neg (by have := HN.out; simp only [costStepS]; omega)]), Below.refl _ _⟩

end Go.Proofs.Ytfmplnebdldpdaa
