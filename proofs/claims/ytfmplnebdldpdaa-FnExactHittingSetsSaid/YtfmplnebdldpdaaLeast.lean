/- Contracts of IsPart, LeastSets (the reference's and the program's). -/
import Derived.Test.YtfmplnebdldpdaaInts
import Derived.Test.YtfmplnebdldpdaaSort
namespace Go.Proofs.Ytfmplnebdldpdaa
open Go.RowKit

set_option maxHeartbeats 400000 in
theorem sIsPart_any (a b : Int) (w : World) :
    Calls Try.prog 43 #[.int .i64 a, .int .i64 b] w fun e w' => e = .returned (.bool (isPart a b)) ∧ w = w' := by
  by_cases h0 : 0 ≤ a <;> by_cases h1 : 0 ≤ b
  all_goals
    go_enter Try.func43, Try.ntmps43
    go_wp2
    go_ret
    exact ⟨ret_b (by first | (simp [isPart, h0, h1]; done) | (simp only [isPart, decide_eq_false (show ¬ 0 ≤ b by omega)]; simp; done) | (simp only [isPart, decide_eq_false (show ¬ 0 ≤ a by omega)]; simp)), rfl⟩

set_option maxHeartbeats 400000 in
theorem iIsPart_any (a b : Int) (w : World) :
    Calls Try.prog 29 #[.int .i64 a, .int .i64 b] w fun e w' => e = .returned (.bool (isPart a b)) ∧ w = w' := by
  by_cases h0 : 0 ≤ a <;> by_cases h1 : 0 ≤ b
  all_goals
    go_enter Try.func29, Try.ntmps29
    go_wp2
    go_ret
    exact ⟨ret_b (by first | (simp [isPart, h0, h1]; done) | (simp only [isPart, decide_eq_false (show ¬ 0 ≤ b by omega)]; simp; done) | (simp only [isPart, decide_eq_false (show ¬ 0 ≤ a by omega)]; simp)), rfl⟩

set_option maxHeartbeats 1000000 in
theorem sLeastSets_any (A : Option Addr) (n c : Nat) (zs : List Int) (L : List Nat) (w : World) (hm : n ≤ 1099511627776) (h : Ints w A n zs L) :
    Calls Try.prog 18 #[.slice A n c] w (GivesInts w (sLeast zs)) := by
  have H := Lib.hid h
  have hl := Lib.hid h.len
  clear h
  go_enter Try.func18, Try.ntmps18
  go_wp2
  go_loopw [3, 4, 5, 6] (fun v i _ _ wr => ∃ (k : Nat) (out : List Int), k ≤ n ∧ i = .int .i64 k ∧ out.length ≤ 2 * k ∧ Hid (AccI w v out wr) ∧ Hid (sLeastL zs (zs.drop k) out = sLeast zs)) (fun _ i _ _ _ => n - (intOf i).toNat)
  case atStart => exact ⟨0, [], Nat.zero_le _, rfl, by simp, AccI.made (Below.refl _ _), Lib.hid (by simp [sLeast])⟩
  case round =>
    obtain ⟨k, out, hk, rfl, hol, HA, HE⟩ := hrel
    obtain ⟨Ao, co, rfl, _, _⟩ := HA.out.shape
    by_cases hlt : k < n
    · obtain ⟨b, off, rfl, hbL, hc⟩ := H.out.at_ hlt
      have HC := Lib.hid hc
      have hbl : b < w.heap.size := H.out.lt b hbL
      have hd : Hid (zs.drop k = zs.getD k 0 :: zs.drop (k + 1)) := drop_cons (by have := hl.out; omega)
      generalize zs.getD k 0 = x at HC hd hc
      have hc0 := (HA.out.below.cell (p := ⟨b, off + k, none⟩) hbl).trans HC.out
      clear hc
      go_wp2
      obtain ⟨wo, rfl⟩ : ∃ wo : World, wo = wr := ⟨_, rfl⟩
      go_loopw [5, 6] (fun f i wr => ∃ (j : Nat) (d : Bool), j ≤ n ∧ i = .int .i64 j ∧ f = .bool d ∧ Hid ((∃ q, wr = wo.drewN q) ∧ leastIn (zs.drop j) x d = leastIn zs x (decide (0 ≤ x)))) (fun _ i _ => n - (intOf i).toNat)
      case atStart => exact ⟨0, _, Nat.zero_le _, rfl, rfl, ⟨0, rfl⟩, by simp⟩
      case round =>
        obtain ⟨j, d, hj, rfl, rfl, hr⟩ := hrel
        obtain ⟨⟨q, rfl⟩, h2⟩ := hr.out
        have HI := Lib.hid h2
        clear hr h2
        by_cases hjt : j < n
        · have hcj := (HA.out.below.cell (p := ⟨b, off + j, none⟩) hbl).trans (H.out.cell hjt)
          have hdj : Hid (zs.drop j = zs.getD j 0 :: zs.drop (j + 1)) := drop_cons (by have := hl.out; omega)
          generalize zs.getD j 0 = z at hcj hdj
          have k0 : (0 : Int) ≤ k := by omega
          have k1 : (k : Int) < n := by omega
          have j0 : (0 : Int) ≤ j := by omega
          have j1 : (j : Int) < n := by omega
          have HS : Hid (leastIn (zs.drop (j + 1)) x (d && (!isPart z x || z == x)) = leastIn zs x (decide (0 ≤ x))) := by
            rw [Hid, ← HI.out, hdj.out]; rfl
          cases d
          · go_wp2
            go_quiet (fail)
            go_wp2
            go_roundw
            case rel => exact ⟨j + 1, _, by omega, by go_num, rfl, by first | exact drew_ex _ _ _ | exact drew_ex1 _ _, HS.out⟩
            case measure => simp [intOf]; omega
          · cases hp : isPart z x
            · go_wp2
              go_quiet ((go_at_call 43; first | exact quiet_left (sIsPart_any _ _ _) | exact quiet_add_left (sIsPart_any _ _ _)))
              go_wp2
              go_roundw
              case rel => exact ⟨j + 1, _, by omega, by go_num, rfl, by first | exact drew_ex _ _ _ | exact drew_ex1 _ _, by have := HS.out; simpa [hp] using this⟩
              case measure => simp [intOf]; omega
            · go_wp2
              go_quiet ((go_at_call 43; first | exact quiet_left (sIsPart_any _ _ _) | exact quiet_add_left (sIsPart_any _ _ _)))
              go_wp2
              go_roundw
              case rel => exact ⟨j + 1, _, by omega, by go_num, rfl, by first | exact drew_ex _ _ _ | exact drew_ex1 _ _, by have := HS.out; simpa [hp] using this⟩
              case measure => simp [intOf]; omega
        · have hb : Hid (leastIn zs x (decide (0 ≤ x)) = d) := by
            rw [Hid, ← HI.out, List.drop_of_length_le (by have := hl.out; omega)]; rfl
          have HA2 := Lib.hid (HA.out.drewN q)
          have hcx : (wo.drewN q).cell? ⟨b, off + k, none⟩ = some (.int .i64 x) := hc0
          have HS : Hid (sLeastL zs (zs.drop (k + 1)) (if d then put13 out x else out) = sLeast zs) := by
            rw [Hid, ← HE.out, hd.out, sLeastL, hb.out]
          cases d
          · go_wp2
            go_roundw
            case rel => exact ⟨k + 1, out, by omega, by go_num, by omega, HA2, HS.out⟩
            case measure => simp [intOf]; omega
          · obtain ⟨_, Lo, hio, _⟩ := HA2.out.ints
            have HIO := Lib.hid hio
            clear hio
            go_wp2_with (go_at_call 44; refine (l13Put_any _ _ _ out Lo x _ (by omega) HIO.out).mono ?_; rintro e w1 ⟨v1, rfl, hv1⟩; have HV := Lib.hid (hv1.from_ HA2.out.below); clear hv1)
            go_roundw
            case rel => exact ⟨k + 1, _, by omega, by go_num, by have := put13_len out x; omega, HV, HS.out⟩
            case measure => simp [intOf]; omega
    · go_wp2
      go_ret
      have e : sLeast zs = out := by rw [← HE.out, List.drop_of_length_le (by have := hl.out; omega)]; rfl
      rw [e]
      exact HA.out.gives

set_option maxHeartbeats 1000000 in
theorem iLeastSets_any (A : Option Addr) (n c : Nat) (zs : List Int) (L : List Nat) (w : World) (hm : n ≤ 1099511627776) (h : Ints w A n zs L) :
    Calls Try.prog 20 #[.slice A n c] w (GivesInts w (iLeast zs)) := by
  have H := Lib.hid h
  have hl := Lib.hid h.len
  clear h
  go_enter Try.func20, Try.ntmps20
  go_wp2
  go_loopw [3, 5, 6, 8, 11] (fun v _ _ _ i wr => ∃ (k : Nat) (out : List Int), k ≤ n ∧ i = .int .i64 k ∧ out.length ≤ k ∧ Hid (AccI w v out wr) ∧ Hid (iLeastL zs (zs.drop k) out = iLeastL zs zs [])) (fun _ _ _ _ i _ => n - (intOf i).toNat)
  case atStart => exact ⟨0, [], Nat.zero_le _, rfl, by simp, AccI.nil (Below.refl _ _), Lib.hid (by simp)⟩
  case round =>
    obtain ⟨k, out, hk, rfl, hol, HA, HE⟩ := hrel
    obtain ⟨Ao, co, rfl, _, _⟩ := HA.out.shape
    by_cases hlt : k < n
    · obtain ⟨b, off, rfl, hbL, hc⟩ := H.out.at_ hlt
      have hbl : b < w.heap.size := H.out.lt b hbL
      have hd : Hid (zs.drop k = zs.getD k 0 :: zs.drop (k + 1)) := drop_cons (by have := hl.out; omega)
      generalize zs.getD k 0 = x at hd hc
      have hc0 := (HA.out.below.cell (p := ⟨b, off + k, none⟩) hbl).trans hc
      clear hc
      obtain ⟨_, Lo, hio, _⟩ := HA.out.ints
      have HIO := Lib.hid hio
      clear hio
      obtain ⟨d0, hd0⟩ : ∃ d0 : Bool, d0 = (decide (0 ≤ x) && !hasI out x) := ⟨_, rfl⟩
      have HS : Hid (iLeastL zs (zs.drop (k + 1)) (if leastOf zs x d0 then out ++ [x] else out) = iLeastL zs zs []) := by
        rw [Hid, ← HE.out, hd.out, iLeastL, hd0]
      have HD0 := Lib.hid hd0
      clear hd0
      cases hh : hasI out x
      all_goals
        have HH := Lib.hid hh
        clear hh
        cases hx : decide (0 ≤ x)
        all_goals
          go_wp2_with (go_at_call 45; refine (hasInt_any _ _ _ out Lo x _ (by omega) HIO.out).mono ?_; rintro e w' ⟨rfl, rfl⟩; rw [HH.out])
          go_loop [6, 8, 25] (fun f _ i => ∃ (j : Nat) (d : Bool), j ≤ n ∧ i = .int .i64 j ∧ f = .bool d ∧ Hid (leastOf (zs.drop j) x d = leastOf zs x d0)) (fun _ _ i => n - (intOf i).toNat)
          case atStart => exact ⟨0, _, Nat.zero_le _, rfl, rfl, Lib.hid (by rw [HD0.out, HH.out]; simp [hx])⟩
          case round =>
            obtain ⟨j, d, hj, rfl, rfl, HI⟩ := hrel
            by_cases hjt : j < n
            · have hcj := (HA.out.below.cell (p := ⟨b, off + j, none⟩) hbl).trans (H.out.cell hjt)
              have hdj : Hid (zs.drop j = zs.getD j 0 :: zs.drop (j + 1)) := drop_cons (by have := hl.out; omega)
              generalize zs.getD j 0 = z at hcj hdj
              have HT : Hid (leastOf (zs.drop (j + 1)) x (d && (z == x || !isPart z x)) = leastOf zs x d0) := by
                rw [Hid, ← HI.out, hdj.out]; rfl
              cases d
              · go_wp2
                go_round
                case rel => exact ⟨j + 1, _, by omega, by go_num, rfl, HT.out⟩
                case measure => simp [intOf]; omega
              · cases hzx : z == x
                all_goals
                  rw [hzx] at HT
                  go_wp2_with (go_at_call 29; refine (iIsPart_any _ _ _).mono ?_; rintro e w' ⟨rfl, rfl⟩)
                  go_round
                  case rel => exact ⟨j + 1, _, by omega, by go_num, rfl, HT.out⟩
                  case measure => simp [intOf]; omega
            · have hb : Hid (leastOf zs x d0 = d) := by
                rw [Hid, ← HI.out, List.drop_of_length_le (by have := hl.out; omega)]; rfl
              rw [hb.out] at HS
              cases d
              · go_wp2
                go_roundw
                case rel => exact ⟨k + 1, out, by omega, by go_num, by omega, HA, HS.out⟩
                case measure => simp [intOf]; omega
              · go_wp2_with (at_builtin; refine app_int rfl _ _ rfl w _ _ _ rfl rfl (by assumption) (by omega) ?_; intro v1 w1 HA1)
                go_roundw
                case rel => exact ⟨k + 1, _, by omega, by go_num, by simp; omega, HA1, HS.out⟩
                case measure => simp [intOf]; omega
    · have e : Hid (iLeastL zs zs [] = out) := by rw [Hid, ← HE.out, List.drop_of_length_le (by have := hl.out; omega)]; rfl
      go_wp2_with (go_at_call 46; refine (sortInts_any w _ _ out HA.out (by omega)).mono ?_; rintro e1 w1 ⟨rfl, hv⟩; have HV := Lib.hid hv; clear hv)
      go_ret
      rw [iLeast, e.out]
      exact HV.out.gives

end Go.Proofs.Ytfmplnebdldpdaa
