/- Contracts of HittingSets (the reference's and the program's). -/
import Derived.Test.YtfmplnebdldpdaaUnionsStd
namespace Go.Proofs.Ytfmplnebdldpdaa
open Go.RowKit

theorem pow_small (n : Nat) (h : n ≤ 6) : wrap64 ((2 : Int) ^ n) = ((2 ^ n : Nat) : Int) ∧ 2 ^ n ≤ 64 ∧ 1 ≤ 2 ^ n := by
  rcases (show n = 0 ∨ n = 1 ∨ n = 2 ∨ n = 3 ∨ n = 4 ∨ n = 5 ∨ n = 6 by omega) with rfl | rfl | rfl | rfl | rfl | rfl | rfl <;> exact ⟨by rw [IntWalk.wrap64_in _ ⟨by decide, by decide⟩]; rfl, by decide, by decide⟩
theorem hitAll_len (l : List Int) : ∀ (f s : Nat) (out : List Int), (hitAll l f s out).length ≤ f + out.length
  | 0, s, out => by simp [hitAll]
  | f + 1, s, out => by
    rw [hitAll]
    have h := hitAll_len l f (s + 1) (if hitsAll (s : Int) l true then out ++ [(s : Int)] else out)
    have h2 : (if hitsAll (s : Int) l true then out ++ [(s : Int)] else out).length ≤ out.length + 1 := by split <;> simp
    omega

set_option maxRecDepth 100000 in
set_option maxHeartbeats 4000000 in
theorem iHittingSets_any (A : Option Addr) (m c : Nat) (zs : List Int) (L : List Nat) (n : Int) (w : World) (hm : m ≤ 1048576) (h : Ints w A m zs L) :
    Calls Try.prog 32 #[.slice A m c, .int .i64 n] w (GivesInts w (iLeast (hitting zs n))) := by
  have H := Lib.hid h
  have hl := Lib.hid h.len
  clear h
  have hnil : Hid (iLeast [] = []) := by simp [Hid, iLeast, iLeastL, sortI]
  by_cases hn0 : 0 ≤ n
  rotate_left
  · have e : Hid (hitting zs n = []) := by rw [Hid, hitting, if_neg (by omega)]
    have hlt0 : n < 0 := by omega
    go_enter Try.func32, Try.ntmps32
    go_wp2
    go_ret
    rw [e.out, hnil.out]
    exact (AccI.nil (Below.refl _ _)).gives
  by_cases hn6 : n ≤ 6
  rotate_left
  · have e : Hid (hitting zs n = []) := by rw [Hid, hitting, if_neg (by omega)]
    have hlt0 : ¬ n < 0 := by omega
    have hlt6 : 6 < n := by omega
    go_enter Try.func32, Try.ntmps32
    go_wp2
    go_ret
    rw [e.out, hnil.out]
    exact (AccI.nil (Below.refl _ _)).gives
  obtain ⟨n, rfl⟩ := Int.eq_ofNat_of_zero_le hn0
  obtain ⟨hp1, hp2, hp3⟩ := pow_small n (by omega)
  have HIT : Hid (hitting zs n = if fitAll zs ((2 ^ n : Nat) : Int) then hitAll zs (2 ^ n) 0 [] else []) := by
    rw [Hid, hitting, if_pos ⟨by omega, by omega⟩, Int.toNat_natCast]
  generalize 2 ^ n = t at hp1 hp2 hp3 HIT
  have h6 : ¬ (6 : Int) < n := by omega
  have h0 : ¬ (n : Int) < 0 := by omega
  go_enter Try.func32, Try.ntmps32
  go_wp2
  go_loop [6, 20] (fun _ i => ∃ (k : Nat), k ≤ m ∧ i = .int .i64 k ∧ Hid (fitAll (zs.drop k) t = fitAll zs t)) (fun _ i => m - (intOf i).toNat)
  case atStart => exact ⟨0, Nat.zero_le _, rfl, Lib.hid (by simp)⟩
  case round =>
    obtain ⟨k, hk, rfl, HE⟩ := hrel
    by_cases hlt : k < m
    · obtain ⟨b, off, rfl, hbL, hc⟩ := H.out.at_ hlt
      have hd : Hid (zs.drop k = zs.getD k 0 :: zs.drop (k + 1)) := drop_cons (by have := hl.out; omega)
      generalize zs.getD k 0 = x at hd hc
      by_cases hx : 0 ≤ x ∧ x < t
      · obtain ⟨hx0, hx1⟩ := hx
        go_wp2
        go_round
        case rel => exact ⟨k + 1, by omega, by go_num, Lib.hid (by rw [← HE.out, hd.out]; simp [fitAll, hx0, hx1])⟩
        case measure => simp [intOf]; omega
      · have ef : Hid (hitting zs n = []) := by
          rw [Hid, HIT.out, ← HE.out, hd.out, if_neg]
          simp only [fitAll, List.all_cons, Bool.and_eq_true, decide_eq_true_eq]
          omega
        by_cases hx0 : x < 0
        · go_wp2
          go_ret
          rw [ef.out, hnil.out]
          exact (AccI.nil (Below.refl _ _)).gives
        · have hx1 : (t : Int) ≤ x := by omega
          go_wp2
          go_ret
          rw [ef.out, hnil.out]
          exact (AccI.nil (Below.refl _ _)).gives
    · have ef : Hid (hitting zs n = hitAll zs t 0 []) := by
        rw [Hid, HIT.out, ← HE.out, List.drop_of_length_le (by have := hl.out; omega)]; rfl
      go_wp2
      go_loopw [7, 8, 9, 11, 35] (fun v _ _ _ i wr => ∃ (s : Nat) (out : List Int), s ≤ t ∧ i = .int .i64 s ∧ out.length ≤ s ∧ Hid (AccI w v out wr) ∧ Hid (hitAll zs (t - s) s out = hitAll zs t 0 [])) (fun _ _ _ _ i _ => t - (intOf i).toNat)
      case atStart => exact ⟨0, [], Nat.zero_le _, rfl, by simp, AccI.nil (Below.refl _ _), Lib.hid rfl⟩
      case round =>
        obtain ⟨s, out, hs, rfl, hol, HA, HT⟩ := hrel
        by_cases hst : s < t
        · have HTn : Hid (hitAll zs (t - (s + 1)) (s + 1) (if hitsAll (s : Int) zs true then out ++ [(s : Int)] else out) = hitAll zs t 0 []) := by
            rw [Hid, ← HT.out, show t - s = (t - (s + 1)) + 1 by omega, hitAll]
          go_wp2
          go_loop [9, 11, 40] (fun f _ i => ∃ (j : Nat) (d : Bool), j ≤ m ∧ i = .int .i64 j ∧ f = .bool d ∧ Hid (hitsAll (s : Int) (zs.drop j) d = hitsAll (s : Int) zs true)) (fun _ _ i => m - (intOf i).toNat)
          case atStart => exact ⟨0, true, Nat.zero_le _, rfl, rfl, Lib.hid (by simp)⟩
          case round =>
            obtain ⟨j, d, hj, rfl, rfl, HI⟩ := hrel
            by_cases hjt : j < m
            · obtain ⟨b, off, rfl, hbL, hc⟩ := H.out.at_ hjt
              have hbl : b < w.heap.size := H.out.lt b hbL
              have hd : Hid (zs.drop j = zs.getD j 0 :: zs.drop (j + 1)) := drop_cons (by have := hl.out; omega)
              generalize zs.getD j 0 = x at hd hc
              have hc0 := (HA.out.below.cell (p := ⟨b, off + j, none⟩) hbl).trans hc
              clear hc
              have HIn : Hid (hitsAll (s : Int) (zs.drop (j + 1)) (d && (bits .and .i64 (s : Int) x != 0)) = hitsAll (s : Int) zs true) := by rw [Hid, ← HI.out, hd.out]; rfl
              cases d
              all_goals
                go_wp2
                go_round
                case rel => exact ⟨j + 1, _, by omega, by go_num, rfl, HIn.out⟩
                case measure => simp [intOf]; omega
            · have ed : Hid (hitsAll (s : Int) zs true = d) := by rw [Hid, ← HI.out, List.drop_of_length_le (by have := hl.out; omega)]; rfl
              rw [ed.out] at HTn
              cases d
              · go_wp2
                go_roundw
                case rel => exact ⟨s + 1, out, by omega, by go_num, by omega, HA, HTn.out⟩
                case measure => simp [intOf]; omega
              · go_wp2_with (at_builtin; refine app_int rfl _ _ rfl w _ _ _ rfl rfl (by assumption) (by omega) ?_; intro v1 w1 HA1)
                go_roundw
                case rel => exact ⟨s + 1, _, by omega, by go_num, by simp; omega, HA1, HTn.out⟩
                case measure => simp [intOf]; omega
        · have e : Hid (hitAll zs t 0 [] = out) := by rw [Hid, ← HT.out, show t - s = 0 by omega]; rfl
          obtain ⟨Ao, co, rfl, _, _⟩ := HA.out.shape
          obtain ⟨_, Lo, hio, _⟩ := HA.out.ints
          have HIO := Lib.hid hio
          have hb0 := Lib.hid HA.out.below
          clear hio
          go_wp2_with (go_at_call 20; refine (iLeastSets_any _ _ _ out Lo _ (by omega) HIO.out).mono ?_; rintro e1 w1 ⟨v1, rfl, hv1⟩; have HV := Lib.hid (hv1.from_ hb0.out); clear hv1)
          go_ret
          rw [ef.out, e.out]
          exact HV.out.gives

end Go.Proofs.Ytfmplnebdldpdaa
