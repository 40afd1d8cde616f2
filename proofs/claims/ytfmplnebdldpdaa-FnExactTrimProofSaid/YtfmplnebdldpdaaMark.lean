/- Contracts of the law files' mark.. functions. Printed by gen.py. -/
import Derived.Test.YtfmplnebdldpdaaProg
import Derived.Test.YtfmplnebdldpdaaMk
import Derived.Outline
import Derived.WalkSpells
import Derived.StillTailTactics
namespace Go.Proofs.Ytfmplnebdldpdaa
open Go.RowKit

set_option maxHeartbeats 1600000 in
theorem markStringS_any (A : Option Addr) (n c : Nat) (ds : List ByteArray) (L : List Nat) (base : Nat) (k : Int) (w : World) (hn : n = ds.length) (hk0 : 1 ≤ k) (hk1 : nextStringS k ds ≤ 4611686018427387904) (h : Got (sliceC strC) base [.slice A n c] ds L w) :
    Calls Try.prog 41 #[.slice A n c, .int .i64 k] w fun e w' => e = .returned (.int .i64 (nextStringS k ds)) ∧ Got (sliceC strC) base [.slice A n c] (mkStringS k ds) L w' ∧ Only L w w' := by
  have H := Lib.hid h
  have HN := Lib.hid hn
  have hk1' : k + n ≤ 4611686018427387904 := by simp only [nextStringS] at hk1; omega
  clear h hn hk1
  go_enter Try.func41, Try.ntmps41
  go_wp2
  go_loopw [1, 5] (fun q j wr => ∃ (i : Nat) (kk : Int) (D : List ByteArray), i ≤ n ∧ j = .int .i64 i ∧ q = .int .i64 kk ∧ 1 ≤ kk ∧ kk + (n - i : Nat) ≤ 4611686018427387904 ∧ Hid (kk = k + i ∧ D.length = i ∧ D ++ mkStringS kk (ds.drop i) = mkStringS k ds) ∧ Hid (Got (sliceC strC) base [.slice A n c] (D ++ ds.drop i) L wr) ∧ Hid (Only L w wr)) (fun _ j _ => n - (intOf j).toNat)
  case atStart => exact ⟨0, k, [], Nat.zero_le _, rfl, rfl, hk0, by omega, ⟨by omega, rfl, rfl⟩, H.out, Only.refl _ _⟩
  case round =>
    obtain ⟨i, kk, D, hi, rfl, rfl, h1, h2, HD, HG, HO⟩ := hrel
    by_cases hlt : i < n
    · have hil : i < ds.length := by have := HN.out; omega
      obtain ⟨hkk, hDl, hDm⟩ := HD.out
      have hcl : i < (D ++ ds.drop i).length := by simp; omega
      obtain ⟨b, off, cs, Lk, rfl, hbL, hLk, hown, hrep, hcells, hput⟩ := HG.out.focus hcl
      obtain ⟨rfl, hlk, _⟩ := hrep
      have HEl := Lib.hid (Elem.start (m := 1) hcells rfl hown)
      have hnext : Hid (ds.drop i = ds[i] :: ds.drop (i + 1)) := List.drop_eq_getElem_cons _
      have HPut := Lib.hid hput
      have HOwn := Lib.hid hown
      have HLk := Lib.hid hLk
      have HLe := Lib.hid hlk
      have HDn : Hid (kk + 1 = k + (i + 1 : Nat) ∧ (D ++ [mTx kk]).length = i + 1 ∧ (D ++ [mTx kk]) ++ mkStringS (kk + 1) (ds.drop (i + 1)) = mkStringS k ds) := by
        refine ⟨by omega, by simp [hDl], ?_⟩
        rw [← hDm, hnext.out]; simp [mkStringS]
      have hset : Hid ((D ++ ds.drop i).set i (mTx kk) = (D ++ [mTx kk]) ++ ds.drop (i + 1)) := by
        rw [Hid, List.set_append_right _ _ (by omega), show i - D.length = 0 by omega, hnext.out, List.set_cons_zero]; simp
      clear hput hown hLk hcells hkk hDl hDm hlk
      simp only [show strC.size = 1 from rfl, Nat.mul_one] at HEl HPut
      go_wp2_with (go_at_call 40; refine (markText_int _ _ (by omega) (by omega)).mono ?_; rintro e w1 ⟨rfl, hb1⟩; have E1 := Lib.hid (HEl.out.later hb1); have q1 := E1.out.at (j := 0) rfl; have z1 := E1.out.frozen (off + i); clear hb1; simp only [Nat.add_zero] at q1)
      have E2 := Lib.hid (E1.out.set 0 (by omega) (.string (mTx kk)))
      have hO2 := Lib.hid (own_cons_keep HOwn.out E2.out.plain E2.out.only (by rw [HLe.out]; simp))
      have HGn := Lib.hid (HPut.out _ _ (mTx kk) E2.out.only E2.out.cells E2.out.rest (by rw [HLe.out]; exact ⟨rfl, rfl, mTx_size _ (by omega)⟩) hO2.out)
      have HOn := Lib.hid (HO.out.trans (E2.out.only.mono (fun y m => by rcases List.mem_cons.1 m with rfl | m; exact hbL; exact HLk.out y m)))
      rw [hset.out] at HGn
      simp only [Nat.add_zero] at HGn HOn
      clear E2 hO2 HPut
      go_wp2_with fail
      go_roundw
      case rel => exact ⟨i + 1, kk + 1, _, by omega, by go_num, rfl, by omega, by omega, HDn, HGn, HOn⟩
      case measure => simp [intOf]; omega
    · obtain rfl : i = n := by omega
      have hf : Hid (nextStringS k ds = kk ∧ D = mkStringS k ds) := by
        obtain ⟨h1, h2, h3⟩ := HD.out
        have e : ds.drop i = [] := List.drop_of_length_le (by have := HN.out; omega)
        rw [e] at h3
        simp [mkStringS] at h3
        exact ⟨by have := HN.out; simp only [nextStringS]; omega, h3⟩
      have e : Hid (ds.drop i = []) := List.drop_of_length_le (by have := HN.out; omega)
      rw [e.out, List.append_nil] at HG
      go_wp2
      go_ret
      exact ⟨ret_i hf.out.1.symm, by rw [← hf.out.2]; exact HG.out, HO.out⟩

set_option maxHeartbeats 1600000 in
theorem markIntS_any (A : Option Addr) (n c : Nat) (ds : List Int) (L : List Nat) (base : Nat) (k : Int) (w : World) (hn : n = ds.length) (hk0 : 1 ≤ k) (hk1 : nextIntS k ds ≤ 4611686018427387904) (h : Got (sliceC intC) base [.slice A n c] ds L w) :
    Calls Try.prog 22 #[.slice A n c, .int .i64 k] w fun e w' => e = .returned (.int .i64 (nextIntS k ds)) ∧ Got (sliceC intC) base [.slice A n c] (mkIntS k ds) L w' ∧ Only L w w' := by
  have H := Lib.hid h
  have HN := Lib.hid hn
  have hk1' : k + n ≤ 4611686018427387904 := by simp only [nextIntS] at hk1; omega
  clear h hn hk1
  go_enter Try.func22, Try.ntmps22
  go_wp2
  go_loopw [1, 5] (fun q j wr => ∃ (i : Nat) (kk : Int) (D : List Int), i ≤ n ∧ j = .int .i64 i ∧ q = .int .i64 kk ∧ 1 ≤ kk ∧ kk + (n - i : Nat) ≤ 4611686018427387904 ∧ Hid (kk = k + i ∧ D.length = i ∧ D ++ mkIntS kk (ds.drop i) = mkIntS k ds) ∧ Hid (Got (sliceC intC) base [.slice A n c] (D ++ ds.drop i) L wr) ∧ Hid (Only L w wr)) (fun _ j _ => n - (intOf j).toNat)
  case atStart => exact ⟨0, k, [], Nat.zero_le _, rfl, rfl, hk0, by omega, ⟨by omega, rfl, rfl⟩, H.out, Only.refl _ _⟩
  case round =>
    obtain ⟨i, kk, D, hi, rfl, rfl, h1, h2, HD, HG, HO⟩ := hrel
    by_cases hlt : i < n
    · have hil : i < ds.length := by have := HN.out; omega
      obtain ⟨hkk, hDl, hDm⟩ := HD.out
      have hcl : i < (D ++ ds.drop i).length := by simp; omega
      obtain ⟨b, off, cs, Lk, rfl, hbL, hLk, hown, hrep, hcells, hput⟩ := HG.out.focus hcl
      obtain ⟨rfl, hlk⟩ := hrep
      have HEl := Lib.hid (Elem.start (m := 1) hcells rfl hown)
      have hnext : Hid (ds.drop i = ds[i] :: ds.drop (i + 1)) := List.drop_eq_getElem_cons _
      have HPut := Lib.hid hput
      have HOwn := Lib.hid hown
      have HLk := Lib.hid hLk
      have HLe := Lib.hid hlk
      have HDn : Hid (kk + 1 = k + (i + 1 : Nat) ∧ (D ++ [kk]).length = i + 1 ∧ (D ++ [kk]) ++ mkIntS (kk + 1) (ds.drop (i + 1)) = mkIntS k ds) := by
        refine ⟨by omega, by simp [hDl], ?_⟩
        rw [← hDm, hnext.out]; simp [mkIntS]
      have hset : Hid ((D ++ ds.drop i).set i (kk) = (D ++ [kk]) ++ ds.drop (i + 1)) := by
        rw [Hid, List.set_append_right _ _ (by omega), show i - D.length = 0 by omega, hnext.out, List.set_cons_zero]; simp
      clear hput hown hLk hcells hkk hDl hDm hlk
      simp only [show intC.size = 1 from rfl, Nat.mul_one] at HEl HPut
      have q1 := HEl.out.at (j := 0) rfl
      have z1 := HEl.out.frozen (off + i)
      simp only [Nat.add_zero] at q1
      go_wp2_with fail
      have E2 := Lib.hid (HEl.out.set 0 (by omega) (.int .i64 kk))
      have hO2 := Lib.hid (own_cons_keep HOwn.out E2.out.plain E2.out.only (by rw [HLe.out]; simp))
      have HGn := Lib.hid (HPut.out _ _ (kk) E2.out.only E2.out.cells E2.out.rest (by rw [HLe.out]; exact ⟨rfl, rfl⟩) hO2.out)
      have HOn := Lib.hid (HO.out.trans (E2.out.only.mono (fun y m => by rcases List.mem_cons.1 m with rfl | m; exact hbL; exact HLk.out y m)))
      rw [hset.out] at HGn
      simp only [Nat.add_zero] at HGn HOn
      clear E2 hO2 HPut
      go_wp2_with fail
      go_roundw
      case rel => exact ⟨i + 1, kk + 1, _, by omega, by go_num, rfl, by omega, by omega, HDn, HGn, HOn⟩
      case measure => simp [intOf]; omega
    · obtain rfl : i = n := by omega
      have hf : Hid (nextIntS k ds = kk ∧ D = mkIntS k ds) := by
        obtain ⟨h1, h2, h3⟩ := HD.out
        have e : ds.drop i = [] := List.drop_of_length_le (by have := HN.out; omega)
        rw [e] at h3
        simp [mkIntS] at h3
        exact ⟨by have := HN.out; simp only [nextIntS]; omega, h3⟩
      have e : Hid (ds.drop i = []) := List.drop_of_length_le (by have := HN.out; omega)
      rw [e.out, List.append_nil] at HG
      go_wp2
      go_ret
      exact ⟨ret_i hf.out.1.symm, by rw [← hf.out.2]; exact HG.out, HO.out⟩

set_option maxRecDepth 100000 in
set_option maxHeartbeats 4000000 in
theorem markStepS_any (A : Option Addr) (n c : Nat) (ds : List StepD) (L : List Nat) (base : Nat) (k : Int) (w : World) (hn : n = ds.length) (hm : n ≤ 1048576) (hk0 : 1 ≤ k) (hk1 : nextStepS k ds ≤ 4611686018427387904) (h : Got (sliceC cStep) base [.slice A n c] ds L w) :
    Calls Try.prog 16 #[.slice A n c, .int .i64 k] w fun e w' => e = .returned (.int .i64 (nextStepS k ds)) ∧ Got (sliceC cStep) base [.slice A n c] (mkStepS k ds) L w' ∧ Only L w w' := by
  have H := Lib.hid h
  have HN := Lib.hid hn
  have HK := Lib.hid hk1
  clear h hn hk1
  go_enter Try.func16, Try.ntmps16
  go_wp2
  go_loopw [1, 5] (fun q j wr => ∃ (i : Nat) (kk : Int) (D : List StepD), i ≤ n ∧ j = .int .i64 i ∧ q = .int .i64 kk ∧ 1 ≤ kk ∧ Hid (nextStepS kk (ds.drop i) = nextStepS k ds ∧ D.length = i ∧ D ++ mkStepS kk (ds.drop i) = mkStepS k ds) ∧ Hid (Got (sliceC cStep) base [.slice A n c] (D ++ ds.drop i) L wr) ∧ Hid (Only L w wr)) (fun _ j _ => n - (intOf j).toNat)
  case atStart => exact ⟨0, k, [], Nat.zero_le _, rfl, rfl, hk0, ⟨rfl, rfl, rfl⟩, H.out, Only.refl _ _⟩
  case round =>
    obtain ⟨i, kk, D, hi, rfl, rfl, h1, HD, HG, HO⟩ := hrel
    by_cases hlt : i < n
    · have hil : i < ds.length := by have := HN.out; omega
      obtain ⟨hkk, hDl, hDm⟩ := HD.out
      have hcl : i < (D ++ ds.drop i).length := by simp; omega
      obtain ⟨b, off, cs, Lk, rfl, hbL, hLk, hown, hrep, hcells, hput⟩ := HG.out.focus hcl
      have hnext : Hid (ds.drop i = ds[i] :: ds.drop (i + 1)) := List.drop_eq_getElem_cons _
      have hxi : (D ++ ds.drop i)[i] = ds[i] := by
        rw [List.getElem_append_right (by omega)]; simp [hDl]
      rw [hxi] at hrep
      clear hxi
      generalize ds[i] = x at hrep hnext
      have hnb : Hid (nextStep kk x ≤ 4611686018427387904) := by
        have := nextStepS_ge (nextStep kk x) (ds.drop (i + 1))
        rw [hnext.out] at hkk
        have hk := HK.out
        rw [← hkk] at hk
        exact Int.le_trans this hk
      have hnb1 := hnb.out
      have hnb2 := nextStep_ge kk x
      unfold nextStep at hnb1 hnb2
      have HDn : Hid (nextStepS (nextStep kk x) (ds.drop (i + 1)) = nextStepS k ds ∧ (D ++ [mkStep kk x]).length = i + 1 ∧ (D ++ [mkStep kk x]) ++ mkStepS (nextStep kk x) (ds.drop (i + 1)) = mkStepS k ds) := by
        refine ⟨by rw [← hkk, hnext.out]; rfl, by simp [hDl], ?_⟩
        rw [← hDm, hnext.out]; simp [mkStepS]
      have hset : Hid ((D ++ ds.drop i).set i (mkStep kk x) = (D ++ [mkStep kk x]) ++ ds.drop (i + 1)) := by
        rw [Hid, List.set_append_right _ _ (by omega), show i - D.length = 0 by omega, hnext.out, List.set_cons_zero]; simp
      obtain ⟨A1, c1, L1, A2, c2, L2, rfl, hLL, t0, t1, n1, m1, s1, n2, m2, s2⟩ := hrep
      unfold maxLen at m1 m2
      subst hLL
      have HEl := Lib.hid (Elem.start (m := 4) hcells rfl hown)
      have hbn := Lib.hid hown.head
      have G1 : Hid (Got (sliceC strC) base [.slice A1 x.fact.args.length c1] x.fact.args L1 wr) := ⟨⟨A1, c1, rfl, n1, (by unfold maxLen; omega), s1⟩, hown.tail.left⟩
      have bn1 : Hid (b ∉ L1) := fun m => hown.head (by simp [m])
      have sb1 : Hid (∀ y ∈ L1, y ∈ L1 ++ L2) := fun y m => by simp [m]
      have ap1_2 : Hid (∀ y ∈ L1, y ∉ L2) := fun y m m' => hown.tail.apart y m (by simp [m'])
      have ap2_1 : Hid (∀ y ∈ L2, y ∉ L1) := fun y m m' => ap1_2.out y m' m
      have G2 : Hid (Got (sliceC intC) base [.slice A2 x.uses.length c2] x.uses L2 wr) := ⟨⟨A2, c2, rfl, n2, (by unfold maxLen; omega), s2⟩, hown.tail.right⟩
      have bn2 : Hid (b ∉ L2) := fun m => hown.head (by simp [m])
      have sb2 : Hid (∀ y ∈ L2, y ∈ L1 ++ L2) := fun y m => by simp [m]
      clear s1
      clear s2
      have HPut := Lib.hid hput
      have HOwn := Lib.hid hown
      have HLk := Lib.hid hLk
      clear hput hown hLk hcells hkk hDl hDm
      simp only [show cStep.size = 4 from rfl] at HEl HPut
      have q0 := HEl.out.at (j := 0) rfl
      have z0 := HEl.out.frozen (off + i * 4)
      have q1 := HEl.out.at (j := 1) rfl
      have z1 := HEl.out.frozen (off + i * 4 + 1)
      have q2 := HEl.out.at (j := 2) rfl
      have z2 := HEl.out.frozen (off + i * 4 + 2)
      have q3 := HEl.out.at (j := 3) rfl
      have z3 := HEl.out.frozen (off + i * 4 + 3)
      simp only [Nat.add_zero] at q0
      have gm0 : (0 : Int) ≤ 0 := by omega
      have mono_x_fact_args := nextStringS_ge (kk + 1) x.fact.args
      have mono_x_uses := nextIntS_ge (nextStringS (kk + 1) x.fact.args + 1) x.uses
      go_wp2_with fail
      refine (markText_int _ _ (by omega) (by omega)).mono ?_
      rintro e w1 ⟨rfl, hb1⟩
      have HEl := Lib.hid (HEl.out.later hb1)
      have G1 := Lib.hid (G1.out.later hb1)
      have G2 := Lib.hid (G2.out.later hb1)
      clear hb1
      clear q0 z0 q1 z1 q2 z2 q3 z3
      have q0 := HEl.out.at (j := 0) rfl
      have z0 := HEl.out.frozen (off + i * 4)
      have q1 := HEl.out.at (j := 1) rfl
      have z1 := HEl.out.frozen (off + i * 4 + 1)
      have q2 := HEl.out.at (j := 2) rfl
      have z2 := HEl.out.frozen (off + i * 4 + 2)
      have q3 := HEl.out.at (j := 3) rfl
      have z3 := HEl.out.frozen (off + i * 4 + 3)
      simp only [Nat.add_zero] at q0
      go_wp2_with fail
      have G1 := Lib.hid (G1.out.setFar (p := ⟨b, off + i * 4 + 0, none⟩) bn1.out (.string (mTx (kk))))
      refine (markStringS_any A1 _ c1 x.fact.args L1 base _ _ rfl (by omega) (by omega) G1.out).mono ?_
      rintro e w2 ⟨rfl, g2, on2⟩
      have HEl := Lib.hid ((HEl.out.set 0 (by omega) (.string (mTx (kk)))).marked on2 sb1.out bn1.out)
      have G1 := Lib.hid g2
      have G2 := Lib.hid ((G2.out.setFar (p := ⟨b, off + i * 4 + 0, none⟩) bn2.out (.string (mTx (kk)))).only on2 ap2_1.out)
      clear g2 on2
      clear q0 z0 q1 z1 q2 z2 q3 z3
      have q0 := HEl.out.at (j := 0) rfl
      have z0 := HEl.out.frozen (off + i * 4)
      have q1 := HEl.out.at (j := 1) rfl
      have z1 := HEl.out.frozen (off + i * 4 + 1)
      have q2 := HEl.out.at (j := 2) rfl
      have z2 := HEl.out.frozen (off + i * 4 + 2)
      have q3 := HEl.out.at (j := 3) rfl
      have z3 := HEl.out.frozen (off + i * 4 + 3)
      simp only [Nat.add_zero] at q0
      go_wp2_with fail
      refine (markText_int _ _ (by omega) (by omega)).mono ?_
      rintro e w3 ⟨rfl, hb3⟩
      have HEl := Lib.hid (HEl.out.later hb3)
      have G1 := Lib.hid (G1.out.later hb3)
      have G2 := Lib.hid (G2.out.later hb3)
      clear hb3
      clear q0 z0 q1 z1 q2 z2 q3 z3
      have q0 := HEl.out.at (j := 0) rfl
      have z0 := HEl.out.frozen (off + i * 4)
      have q1 := HEl.out.at (j := 1) rfl
      have z1 := HEl.out.frozen (off + i * 4 + 1)
      have q2 := HEl.out.at (j := 2) rfl
      have z2 := HEl.out.frozen (off + i * 4 + 2)
      have q3 := HEl.out.at (j := 3) rfl
      have z3 := HEl.out.frozen (off + i * 4 + 3)
      simp only [Nat.add_zero] at q0
      go_wp2_with fail
      have G2 := Lib.hid (G2.out.setFar (p := ⟨b, off + i * 4 + 2, none⟩) bn2.out (.string (mTx (nextStringS (kk + 1) x.fact.args))))
      refine (markIntS_any A2 _ c2 x.uses L2 base _ _ rfl (by omega) (by omega) G2.out).mono ?_
      rintro e w4 ⟨rfl, g4, on4⟩
      have HEl := Lib.hid ((HEl.out.set 2 (by omega) (.string (mTx (nextStringS (kk + 1) x.fact.args)))).marked on4 sb2.out bn2.out)
      have G1 := Lib.hid ((G1.out.setFar (p := ⟨b, off + i * 4 + 2, none⟩) bn1.out (.string (mTx (nextStringS (kk + 1) x.fact.args)))).only on4 ap1_2.out)
      have G2 := Lib.hid g4
      clear g4 on4
      clear q0 z0 q1 z1 q2 z2 q3 z3
      have q0 := HEl.out.at (j := 0) rfl
      have z0 := HEl.out.frozen (off + i * 4)
      have q1 := HEl.out.at (j := 1) rfl
      have z1 := HEl.out.frozen (off + i * 4 + 1)
      have q2 := HEl.out.at (j := 2) rfl
      have z2 := HEl.out.frozen (off + i * 4 + 2)
      have q3 := HEl.out.at (j := 3) rfl
      have z3 := HEl.out.frozen (off + i * 4 + 3)
      simp only [Nat.add_zero] at q0
      obtain ⟨nn1, mm1, ss1⟩ := sliceC_out G1.out.rep
      obtain ⟨nn2, mm2, ss2⟩ := sliceC_out G2.out.rep
      have hO2 := Lib.hid (own_cons_keep HOwn.out HEl.out.plain HEl.out.only (fun y m => by simp only [List.mem_append] at m; rcases m with m | m <;> first | exact G1.out.own.plain y m | exact G2.out.own.plain y m))
      have HGn := Lib.hid (HPut.out _ _ (mkStep kk x) HEl.out.only HEl.out.cells HEl.out.rest ⟨A1, c1, L1, A2, c2, L2, by simp [mkStep, mkStringS_len, mkIntS_len], rfl, mTx_size _ (by omega), mTx_size _ (by omega), nn1, mm1, ss1, nn2, mm2, ss2⟩ hO2.out)
      have HOn := Lib.hid (HO.out.trans (HEl.out.only.mono (fun y m => by rcases List.mem_cons.1 m with rfl | m; exact hbL; exact HLk.out y m)))
      rw [hset.out] at HGn
      try simp only [Nat.add_zero] at HGn HOn
      clear HEl hO2 HPut G1 G2 nn1 nn2 mm1 mm2 ss1 ss2
      go_wp2_with fail
      go_roundw
      case rel => exact ⟨i + 1, nextStep kk x, _, by omega, by go_num, rfl, by unfold nextStep; omega, HDn, HGn, HOn⟩
      case measure => simp [intOf]; omega
    · obtain rfl : i = n := by omega
      have e : Hid (ds.drop i = []) := List.drop_of_length_le (by have := HN.out; omega)
      have hf : Hid (nextStepS k ds = kk ∧ D = mkStepS k ds) := by
        obtain ⟨h1, h2, h3⟩ := HD.out
        rw [e.out] at h3 h1
        simp [mkStepS] at h3
        exact ⟨h1.symm, h3⟩
      rw [e.out, List.append_nil] at HG
      go_wp2
      go_ret
      exact ⟨ret_i hf.out.1.symm, by rw [← hf.out.2]; exact HG.out, HO.out⟩

end Go.Proofs.Ytfmplnebdldpdaa
