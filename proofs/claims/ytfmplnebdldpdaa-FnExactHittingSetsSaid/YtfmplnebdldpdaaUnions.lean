/- Contracts of UnionsOf (the reference's and the program's). -/
import Derived.Test.YtfmplnebdldpdaaLeast
import Derived.Deep.RegionLaw
namespace Go.Proofs.Ytfmplnebdldpdaa
open Go.RowKit

set_option maxHeartbeats 1000000 in
theorem iUnionsOf_any (A B : Option Addr) (n m c d : Nat) (xs ys : List Int) (L M : List Nat) (w : World) (hn : n ≤ 1048576) (hm : m ≤ 1048576) (ha : Ints w A n xs L) (hb : Ints w B m ys M) :
    Calls Try.prog 28 #[.slice A n c, .slice B m d] w (GivesInts w (iLeast (unAll xs ys))) := by
  have HA := Lib.hid ha
  have HB := Lib.hid hb
  have la := Lib.hid ha.len
  have lb := Lib.hid hb.len
  have HU : Hid ((unAll xs ys).length ≤ 1099511627776) := unAll_len xs ys (by have := la.out; omega) (by have := lb.out; omega)
  clear ha hb
  go_enter Try.func28, Try.ntmps28
  go_wp2
  go_loopw [5, 7, 9, 12] (fun v _ _ i wr => ∃ (k : Nat) (out : List Int), k ≤ n ∧ i = .int .i64 k ∧ Hid (AccI w v out wr) ∧ Hid (unsL ys (xs.drop k) out = unAll xs ys)) (fun _ _ _ i _ => n - (intOf i).toNat)
  case atStart => exact ⟨0, [], Nat.zero_le _, rfl, AccI.nil (Below.refl _ _), Lib.hid (by simp [unAll])⟩
  case round =>
    obtain ⟨k, out, hk, rfl, HO, HE⟩ := hrel
    have hol : out.length ≤ 1099511627776 := Nat.le_trans (by have := unsL_ge ys (xs.drop k) out; rw [HE.out] at this; exact this) HU.out
    by_cases hlt : k < n
    · obtain ⟨b, off, rfl, hbL, hc⟩ := HA.out.at_ hlt
      have hbl : b < w.heap.size := HA.out.lt b hbL
      have hd : Hid (xs.drop k = xs.getD k 0 :: xs.drop (k + 1)) := drop_cons (by have := la.out; omega)
      generalize xs.getD k 0 = x at hd hc
      have hc0 := (HO.out.below.cell (p := ⟨b, off + k, none⟩) hbl).trans hc
      clear hc
      have HE2 : Hid (unsL ys (xs.drop (k + 1)) (unL x ys out) = unAll xs ys) := by rw [Hid, ← HE.out, hd.out]; rfl
      go_wp2
      go_loopw [5, 9, 18] (fun v _ i wr => ∃ (j : Nat) (o2 : List Int), j ≤ m ∧ i = .int .i64 j ∧ Hid (AccI w v o2 wr) ∧ Hid (unL x (ys.drop j) o2 = unL x ys out)) (fun _ _ i _ => m - (intOf i).toNat)
      case atStart => exact ⟨0, out, Nat.zero_le _, rfl, HO, Lib.hid (by simp)⟩
      case round =>
        obtain ⟨j, o2, hj, rfl, HO2, HI⟩ := hrel
        have hol2 : o2.length ≤ 1099511627776 := Nat.le_trans (Nat.le_trans (by have := unL_ge x (ys.drop j) o2; rw [HI.out] at this; exact this) (by have := unsL_ge ys (xs.drop (k + 1)) (unL x ys out); rw [HE2.out] at this; exact this)) HU.out
        by_cases hjt : j < m
        · obtain ⟨b', off', rfl, hbM, hc⟩ := HB.out.at_ hjt
          have hbl' : b' < w.heap.size := HB.out.lt b' hbM
          have hdj : Hid (ys.drop j = ys.getD j 0 :: ys.drop (j + 1)) := drop_cons (by have := lb.out; omega)
          generalize ys.getD j 0 = y at hdj hc
          have hc1 := (HO2.out.below.cell (p := ⟨b', off' + j, none⟩) hbl').trans hc
          clear hc
          have HT : Hid (unL x (ys.drop (j + 1)) (if 0 ≤ x ∧ 0 ≤ y then o2 ++ [orI x y] else o2) = unL x ys out) := by rw [Hid, ← HI.out, hdj.out]; rfl
          by_cases hx : 0 ≤ x <;> by_cases hy : 0 ≤ y
          · rw [if_pos ⟨hx, hy⟩] at HT
            go_wp2_with (at_builtin; refine app_int rfl _ _ rfl w _ _ _ rfl rfl (by assumption) (by omega) ?_; intro v1 w1 HA1)
            go_roundw
            case rel => exact ⟨j + 1, _, by omega, by go_num, HA1, HT.out⟩
            case measure => simp [intOf]; omega
          all_goals
            rw [if_neg (by omega)] at HT
            go_wp2
            go_roundw
            case rel => exact ⟨j + 1, _, by omega, by go_num, HO2, HT.out⟩
            case measure => simp [intOf]; omega
        · have e : Hid (unL x ys out = o2) := by rw [Hid, ← HI.out, List.drop_of_length_le (by have := lb.out; omega)]; rfl
          rw [e.out] at HE2
          go_wp2
          go_roundw
          case rel => exact ⟨k + 1, o2, by omega, by go_num, HO2, HE2.out⟩
          case measure => simp [intOf]; omega
    · have e : Hid (unAll xs ys = out) := by rw [Hid, ← HE.out, List.drop_of_length_le (by have := la.out; omega)]; rfl
      obtain ⟨Ao, co, rfl, _, _⟩ := HO.out.shape
      obtain ⟨_, Lo, hio, _⟩ := HO.out.ints
      have HIO := Lib.hid hio
      clear hio
      have hb0 := Lib.hid HO.out.below
      go_wp2_with (go_at_call 20; refine (iLeastSets_any _ _ _ out Lo _ (by omega) HIO.out).mono ?_; rintro e1 w1 ⟨v1, rfl, hv1⟩; have HV := Lib.hid (hv1.from_ hb0.out); clear hv1)
      go_ret
      rw [e.out]
      exact HV.out.gives

set_option maxRecDepth 100000 in
set_option maxHeartbeats 1000000 in
theorem sUnionsOf_any (A B : Option Addr) (n m c d : Nat) (xs ys : List Int) (L M : List Nat) (w : World) (hn : n ≤ 1048576) (hm : m ≤ 1048576) (ha : Ints w A n xs L) (hb : Ints w B m ys M) :
    Calls Try.prog 30 #[.slice A n c, .slice B m d] w (GivesInts w (sLeast (unAll xs ys))) := by
  have HA := Lib.hid ha
  have HB := Lib.hid hb
  have la := Lib.hid ha.len
  have lb := Lib.hid hb.len
  have HU : Hid ((unAll xs ys).length ≤ 1099511627776) := unAll_len xs ys (by have := la.out; omega) (by have := lb.out; omega)
  clear ha hb
  go_enter Try.func30, Try.ntmps30
  go_wp2
  go_loopw [5, 6, 7] (fun v i _ wr => ∃ (k : Nat) (out : List Int), k ≤ n ∧ i = .int .i64 k ∧ Hid (AccI w v out wr) ∧ Hid (unsL ys (xs.drop k) out = unAll xs ys)) (fun _ i _ _ => n - (intOf i).toNat)
  case atStart => exact ⟨0, [], Nat.zero_le _, rfl, AccI.made (Below.refl _ _), Lib.hid (by simp [unAll])⟩
  case round =>
    obtain ⟨k, out, hk, rfl, HO, HE⟩ := hrel
    have hol : out.length ≤ 1099511627776 := Nat.le_trans (by have := unsL_ge ys (xs.drop k) out; rw [HE.out] at this; exact this) HU.out
    by_cases hlt : k < n
    · obtain ⟨b, off, rfl, hbL, hc⟩ := HA.out.at_ hlt
      have hbl : b < w.heap.size := HA.out.lt b hbL
      have hd : Hid (xs.drop k = xs.getD k 0 :: xs.drop (k + 1)) := drop_cons (by have := la.out; omega)
      generalize xs.getD k 0 = x at hd hc
      have HC := Lib.hid hc
      clear hc
      have HE2 : Hid (unsL ys (xs.drop (k + 1)) (unL x ys out) = unAll xs ys) := by rw [Hid, ← HE.out, hd.out]; rfl
      go_wp2
      go_loopw [5, 7] (fun v i wr => ∃ (j : Nat) (o2 : List Int), j ≤ m ∧ i = .int .i64 j ∧ Hid (AccI w v o2 wr) ∧ Hid (unL x (ys.drop j) o2 = unL x ys out)) (fun _ i _ => m - (intOf i).toNat)
      case atStart => exact ⟨0, out, Nat.zero_le _, rfl, HO, Lib.hid (by simp)⟩
      case round =>
        obtain ⟨j, o2, hj, rfl, HO2, HI⟩ := hrel
        have hol2 : o2.length ≤ 1099511627776 := Nat.le_trans (Nat.le_trans (by have := unL_ge x (ys.drop j) o2; rw [HI.out] at this; exact this) (by have := unsL_ge ys (xs.drop (k + 1)) (unL x ys out); rw [HE2.out] at this; exact this)) HU.out
        by_cases hjt : j < m
        · obtain ⟨b', off', rfl, hbM, hc⟩ := HB.out.at_ hjt
          have hbl' : b' < w.heap.size := HB.out.lt b' hbM
          have hdj : Hid (ys.drop j = ys.getD j 0 :: ys.drop (j + 1)) := drop_cons (by have := lb.out; omega)
          generalize ys.getD j 0 = y at hdj hc
          have hc1 := (HO2.out.below.cell (p := ⟨b', off' + j, none⟩) hbl').trans hc
          have hc0 := (HO2.out.below.cell (p := ⟨b, off + k, none⟩) hbl).trans HC.out
          clear hc
          have HT : Hid (unL x (ys.drop (j + 1)) (if 0 ≤ x ∧ 0 ≤ y then o2 ++ [orI x y] else o2) = unL x ys out) := by rw [Hid, ← HI.out, hdj.out]; rfl
          have k0 : (0 : Int) ≤ k := by omega
          have k1 : (k : Int) < n := by omega
          have j0 : (0 : Int) ≤ j := by omega
          have j1 : (j : Int) < m := by omega
          by_cases hx : 0 ≤ x <;> by_cases hy : 0 ≤ y
          · rw [if_pos ⟨hx, hy⟩] at HT
            go_wp2
            go_region_law ((refine step_app_int (by rfl) _ _ (by rfl) w _ _ _ (by rfl) (by rfl) (by assumption) (by omega) ?_; intro v1 w1 HA1))
            all_goals
              go_wp2
              go_roundw
              case rel => exact ⟨j + 1, _, by omega, by go_num, by assumption, HT.out⟩
              case measure => simp [intOf]; omega
          all_goals
            rw [if_neg (by omega)] at HT
            go_wp2
            go_roundw
            case rel => exact ⟨j + 1, _, by omega, by go_num, HO2, HT.out⟩
            case measure => simp [intOf]; omega
        · have e : Hid (unL x ys out = o2) := by rw [Hid, ← HI.out, List.drop_of_length_le (by have := lb.out; omega)]; rfl
          rw [e.out] at HE2
          go_wp2
          go_roundw
          case rel => exact ⟨k + 1, o2, by omega, by go_num, HO2, HE2.out⟩
          case measure => simp [intOf]; omega
    · have e : Hid (unAll xs ys = out) := by rw [Hid, ← HE.out, List.drop_of_length_le (by have := la.out; omega)]; rfl
      obtain ⟨Ao, co, rfl, _, _⟩ := HO.out.shape
      obtain ⟨_, Lo, hio, _⟩ := HO.out.ints
      have HIO := Lib.hid hio
      clear hio
      have hb0 := Lib.hid HO.out.below
      go_wp2_with (go_at_call 18; refine (sLeastSets_any _ _ _ out Lo _ (by omega) HIO.out).mono ?_; rintro e1 w1 ⟨v1, rfl, hv1⟩; have HV := Lib.hid (hv1.from_ hb0.out); clear hv1)
      go_ret
      rw [e.out]
      exact HV.out.gives

end Go.Proofs.Ytfmplnebdldpdaa
