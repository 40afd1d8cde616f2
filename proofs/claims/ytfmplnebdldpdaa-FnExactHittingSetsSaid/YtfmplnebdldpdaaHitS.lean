/- Contract of the reference's HittingSets. -/
import Derived.Test.YtfmplnebdldpdaaHit
import Derived.Test.YtfmplnebdldpdaaIn1
namespace Go.Proofs.Ytfmplnebdldpdaa
open Go.RowKit

theorem bits_and_comm (a b : Int) : bits .and .i64 a b = bits .and .i64 b a := by
  simp only [bits, BitVec.and_comm]

set_option maxRecDepth 100000 in
set_option maxHeartbeats 4000000 in
theorem sHittingSets_any (A : Option Addr) (m c : Nat) (zs : List Int) (L : List Nat) (n : Int) (w : World) (hm : m ≤ 1048576) (h : Ints w A m zs L) :
    Calls Try.prog 31 #[.slice A m c, .int .i64 n] w (GivesInts w (sLeast (hitting zs n))) := by
  have H := Lib.hid h
  have hl := Lib.hid h.len
  clear h
  have hnil : Hid (sLeast [] = []) := rfl
  cases hin : in1 n 0 6
  · have e : Hid (hitting zs n = []) := by rw [Hid, hitting, if_neg (by simp [in1] at hin; omega)]
    go_enter Try.func31, Try.ntmps31
    go_wp2_with (go_at_call 34; refine (l1In_any _ _ _ _).mono ?_; rintro e w' ⟨rfl, rfl⟩; rw [hin])
    go_ret
    rw [e.out, hnil.out]
    exact (AccI.made (Below.refl _ _)).gives
  have hn0 : 0 ≤ n := by simp [in1] at hin; omega
  have hn6 : n ≤ 6 := by simp [in1] at hin; omega
  obtain ⟨n, rfl⟩ := Int.eq_ofNat_of_zero_le hn0
  obtain ⟨hp1, hp2, hp3⟩ := pow_small n (by omega)
  have HIT : Hid (hitting zs n = if fitAll zs ((2 ^ n : Nat) : Int) then hitAll zs (2 ^ n) 0 [] else []) := by
    rw [Hid, hitting, if_pos ⟨by omega, by omega⟩, Int.toNat_natCast]
  generalize 2 ^ n = t at hp1 hp2 hp3 HIT
  go_enter Try.func31, Try.ntmps31
  go_wp2_with (go_at_call 34; refine (l1In_any _ _ _ _).mono ?_; rintro e w' ⟨rfl, rfl⟩; rw [hin])
  go_loopw [5] (fun i wr => ∃ (k : Nat), k ≤ m ∧ i = .int .i64 k ∧ Hid ((∃ q, wr = w.drewN q) ∧ fitAll (zs.drop k) t = fitAll zs t)) (fun i _ => m - (intOf i).toNat)
  case atStart => exact ⟨0, Nat.zero_le _, rfl, ⟨0, rfl⟩, by simp⟩
  case round =>
    obtain ⟨k, hk, rfl, hr⟩ := hrel
    obtain ⟨⟨q, rfl⟩, h2⟩ := hr.out
    have HE := Lib.hid h2
    clear hr h2
    by_cases hlt : k < m
    · obtain ⟨b, off, rfl, hbL, hc⟩ := H.out.at_ hlt
      have hd : Hid (zs.drop k = zs.getD k 0 :: zs.drop (k + 1)) := drop_cons (by have := hl.out; omega)
      generalize zs.getD k 0 = x at hd hc
      have k0 : (0 : Int) ≤ k := by omega
      have k1 : (k : Int) < m := by omega
      have hT : IntKind.i64.wrap (IntKind.i64.wrap (2 ^ n) - 1) = (t : Int) - 1 := by
        rw [show IntKind.i64.wrap (2 ^ n) = (t : Int) from (IntWalk.i64_left _).trans hp1]; exact (IntWalk.i64_left _).trans (IntWalk.wrap64_in _ ⟨by omega, by omega⟩)
      cases hcond : in1 x 0 ((t : Int) - 1)
      · have ef : Hid (hitting zs n = []) := by
          rw [Hid, HIT.out, ← HE.out, hd.out, if_neg]
          simp only [fitAll, List.all_cons, Bool.and_eq_true, decide_eq_true_eq]
          simp [in1] at hcond
          omega
        go_wp2
        go_quiet ((go_at_call 34; first | exact quiet_left (l1In_any _ _ _ _) | exact quiet_add_left (l1In_any _ _ _ _)))
        go_wp2
        go_ret
        rw [ef.out, hnil.out]
        exact (AccI.made (below_drewN (Below.refl _ _) _)).gives
      · have hx : 0 ≤ x ∧ x < t := by simp [in1] at hcond; omega
        have HEn : Hid (fitAll (zs.drop (k + 1)) t = fitAll zs t) := Lib.hid (by rw [← HE.out, hd.out]; simp [fitAll, hx.1, hx.2])
        go_wp2
        go_quiet ((go_at_call 34; first | exact quiet_left (l1In_any _ _ _ _) | exact quiet_add_left (l1In_any _ _ _ _)))
        go_wp2
        go_roundw
        case rel => exact ⟨k + 1, by omega, by go_num, by first | exact drew_ex _ _ _ | exact drew_ex1 _ _, HEn.out⟩
        case measure => simp [intOf]; omega
    · have ef : Hid (hitting zs n = hitAll zs t 0 []) := by
        rw [Hid, HIT.out, ← HE.out, List.drop_of_length_le (by have := hl.out; omega)]; rfl
      have HB := Lib.hid (below_drewN (Below.refl w.heap.size w) q)
      go_wp2
      go_loopw [6, 7, 8, 9] (fun v i _ _ wr => ∃ (s : Nat) (out : List Int), s ≤ t ∧ i = .int .i64 s ∧ out.length ≤ s ∧ Hid (AccI w v out wr) ∧ Hid (hitAll zs (t - s) s out = hitAll zs t 0 [])) (fun _ i _ _ _ => t - (intOf i).toNat)
      case atStart => exact ⟨0, [], Nat.zero_le _, rfl, by simp, AccI.made HB.out, Lib.hid rfl⟩
      case round =>
        obtain ⟨s, out, hs, rfl, hol, HA, HT⟩ := hrel
        by_cases hst : s < t
        · have HTn : Hid (hitAll zs (t - (s + 1)) (s + 1) (if hitsAll (s : Int) zs true then out ++ [(s : Int)] else out) = hitAll zs t 0 []) := by
            rw [Hid, ← HT.out, show t - s = (t - (s + 1)) + 1 by omega, hitAll]
          go_wp2
          go_loop [8, 9] (fun f i => ∃ (j : Nat) (d : Bool), j ≤ m ∧ i = .int .i64 j ∧ f = .bool d ∧ Hid (hitsAll (s : Int) (zs.drop j) d = hitsAll (s : Int) zs true)) (fun _ i => m - (intOf i).toNat)
          case atStart => exact ⟨0, true, Nat.zero_le _, rfl, rfl, Lib.hid (by simp)⟩
          case round =>
            obtain ⟨j, d, hj, rfl, rfl, HI⟩ := hrel
            by_cases hjt : j < m
            · obtain ⟨b, off, rfl, hbL, hc⟩ := H.out.at_ hjt
              have hbl : b < w.heap.size := H.out.lt b hbL
              have hd : Hid (zs.drop j = zs.getD j 0 :: zs.drop (j + 1)) := drop_cons (by have := hl.out; omega)
              generalize zs.getD j 0 = x at hd hc
              have hc0 := (HA.out.below.cell (p := ⟨b, off + j, none⟩) hbl).trans hc
              clear hc
              have j0 : (0 : Int) ≤ j := by omega
              have j1 : (j : Int) < m := by omega
              have HIn : Hid (hitsAll (s : Int) (zs.drop (j + 1)) (d && (bits .and .i64 x (s : Int) != 0)) = hitsAll (s : Int) zs true) := by rw [Hid, ← HI.out, hd.out, bits_and_comm]; rfl
              cases d
              all_goals
                go_wp2
                go_round
                case rel => exact ⟨j + 1, _, by omega, by go_num, rfl, HIn.out⟩
                case measure => simp [intOf]; omega
            · have ed : Hid (hitsAll (s : Int) zs true = d) := by rw [Hid, ← HI.out, List.drop_of_length_le (by have := hl.out; omega)]; rfl
              rw [ed.out] at HTn
              cases d
              · go_wp2
                go_roundw
                case rel => exact ⟨s + 1, out, by omega, by go_num, by omega, HA, HTn.out⟩
                case measure => simp [intOf]; omega
              · go_wp2_with (at_builtin; refine app_int rfl _ _ rfl w _ _ _ rfl rfl (by assumption) (by omega) ?_; intro v1 w1 HA1)
                go_roundw
                case rel => exact ⟨s + 1, _, by omega, by go_num, by simp; omega, HA1, HTn.out⟩
                case measure => simp [intOf]; omega
        · have e : Hid (hitAll zs t 0 [] = out) := by rw [Hid, ← HT.out, show t - s = 0 by omega]; rfl
          obtain ⟨Ao, co, rfl, _, _⟩ := HA.out.shape
          obtain ⟨_, Lo, hio, _⟩ := HA.out.ints
          have HIO := Lib.hid hio
          have hb0 := Lib.hid HA.out.below
          clear hio
          go_wp2_with (go_at_call 18; refine (sLeastSets_any _ _ _ out Lo _ (by omega) HIO.out).mono ?_; rintro e1 w1 ⟨v1, rfl, hv1⟩; have HV := Lib.hid (hv1.from_ hb0.out); clear hv1)
          go_ret
          rw [ef.out, e.out]
          exact HV.out.gives
end Go.Proofs.Ytfmplnebdldpdaa
