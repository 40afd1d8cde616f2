/- Contracts of the law files' held.. functions, for marked data. Printed by gen.py. -/
import Derived.Deep.RegionHeld3
import Derived.Test.YtfmplnebdldpdaaProg
import Derived.Test.YtfmplnebdldpdaaMk
import Derived.Outline
import Derived.WalkSpells
import Derived.StillTailTactics
namespace Go.Proofs.Ytfmplnebdldpdaa
open Go.RowKit

theorem below_of_drew {w w1 : World} {B : Nat} (h : Below w.drew.heap.size w.drew w1) (hB : B ≤ w.heap.size) : Below B w w1 := ⟨h.os, h.tape, h.output, h.size, fun k hk => h.block k (Nat.lt_of_lt_of_le hk hB)⟩

set_option maxHeartbeats 1600000 in
theorem heldStringS_any (A : Option Addr) (n c : Nat) (ds : List ByteArray) (L : List Nat) (k : Int) (w : World) (hn : n = ds.length) (hk0 : 1 ≤ k) (hk1 : nextStringS k ds ≤ 4611686018427387904) (h : Sli strC w A (mkStringS k ds) L) :
    Calls Try.prog 42 #[.slice A n c, .int .i64 k] w fun e w' => e = .returned (.int .i64 (nextStringS k ds)) ∧ Below w.heap.size w w' := by
  have H := Lib.hid h
  have HN := Lib.hid hn
  have hk1' : k + n ≤ 4611686018427387904 := by simp only [nextStringS] at hk1; omega
  clear h hn hk1
  go_enter Try.func42, Try.ntmps42
  go_wp2
  go_loopw [1, 5] (fun q j wr => ∃ (i : Nat) (kk : Int), i ≤ n ∧ j = .int .i64 i ∧ q = .int .i64 kk ∧ 1 ≤ kk ∧ kk + (n - i : Nat) ≤ 4611686018427387904 ∧ Hid (kk = k + i ∧ (mkStringS k ds).drop i = mkStringS kk (ds.drop i)) ∧ Hid (Below w.heap.size w wr)) (fun _ j _ => n - (intOf j).toNat)
  case atStart => exact ⟨0, k, Nat.zero_le _, rfl, rfl, hk0, by omega, ⟨by omega, rfl⟩, Below.refl _ _⟩
  case round =>
    obtain ⟨i, kk, hi, rfl, rfl, h1, h2, HD, HB⟩ := hrel
    by_cases hlt : i < n
    · have hil : i < ds.length := by have := HN.out; omega
      obtain ⟨hkk, hdr⟩ := HD.out
      have hml : i < (mkStringS k ds).length := by rw [mkStringS_len]; exact hil
      obtain ⟨b, off, cs, Lk, rfl, hbL, _, hrep, hc⟩ := H.out.at_ hml
      have hdr2 := hdr
      rw [List.drop_eq_getElem_cons hml, List.drop_eq_getElem_cons hil, mkStringS] at hdr2
      injection hdr2 with e1 e2
      rw [e1] at hrep
      obtain ⟨rfl, _, _⟩ := hrep
      have hbl : b < w.heap.size := H.out.lt b hbL
      have hbr : b < wr.heap.size := Nat.lt_of_lt_of_le hbl HB.out.size
      have q0 := (HB.out.cell (p := ⟨b, off + (i * strC.size + 0), none⟩) hbl).trans (hc 0 _ rfl)
      simp only [show strC.size = 1 from rfl, Nat.mul_one, Nat.add_zero] at q0
      have HDn : Hid (kk + 1 = k + (i + 1 : Nat) ∧ (mkStringS k ds).drop (i + 1) = mkStringS (kk + 1) (ds.drop (i + 1))) := ⟨by omega, e2⟩
      clear hc hkk hdr e1 e2
      have i0 : (0 : Int) ≤ i := by omega
      have i1 : (i : Int) < n := by omega
      go_wp2_with fail
      go_region_held3 (fun w' => w'.cell? ⟨b, off + i, none⟩ = some (.string (mTx kk))) (first | go_keep | exact (hb1.cell (p := ⟨b, off + i, none⟩) hbr).trans q0) (first | (go_at_call 40; refine (markText_int _ _ (by omega) (by omega)).mono ?_; rintro e w1 ⟨rfl, hb1⟩))
      have HBn := Lib.hid (HB.out.trans (below_of_drew hb1 HB.out.size))
      clear hb1
      go_wp2_with fail
      go_roundw
      case rel => exact ⟨i + 1, kk + 1, by omega, by go_num, rfl, by omega, by omega, HDn, HBn⟩
      case measure => simp [intOf]; omega
    · obtain rfl : i = n := by omega
      have hf : Hid (nextStringS k ds = kk) := by
        obtain ⟨h1, _⟩ := HD.out
        have := HN.out; rw [Hid]; simp only [nextStringS]; omega
      go_wp2
      go_ret
      exact ⟨ret_i hf.out.symm, HB.out⟩

set_option maxHeartbeats 1600000 in
theorem heldIntS_any (A : Option Addr) (n c : Nat) (ds : List Int) (L : List Nat) (k : Int) (w : World) (hn : n = ds.length) (hk0 : 1 ≤ k) (hk1 : nextIntS k ds ≤ 4611686018427387904) (h : Sli intC w A (mkIntS k ds) L) :
    Calls Try.prog 23 #[.slice A n c, .int .i64 k] w fun e w' => e = .returned (.int .i64 (nextIntS k ds)) ∧ Below w.heap.size w w' := by
  have H := Lib.hid h
  have HN := Lib.hid hn
  have hk1' : k + n ≤ 4611686018427387904 := by simp only [nextIntS] at hk1; omega
  clear h hn hk1
  go_enter Try.func23, Try.ntmps23
  go_wp2
  go_loopw [1, 5] (fun q j wr => ∃ (i : Nat) (kk : Int), i ≤ n ∧ j = .int .i64 i ∧ q = .int .i64 kk ∧ 1 ≤ kk ∧ kk + (n - i : Nat) ≤ 4611686018427387904 ∧ Hid (kk = k + i ∧ (mkIntS k ds).drop i = mkIntS kk (ds.drop i)) ∧ Hid (Below w.heap.size w wr)) (fun _ j _ => n - (intOf j).toNat)
  case atStart => exact ⟨0, k, Nat.zero_le _, rfl, rfl, hk0, by omega, ⟨by omega, rfl⟩, Below.refl _ _⟩
  case round =>
    obtain ⟨i, kk, hi, rfl, rfl, h1, h2, HD, HB⟩ := hrel
    by_cases hlt : i < n
    · have hil : i < ds.length := by have := HN.out; omega
      obtain ⟨hkk, hdr⟩ := HD.out
      have hml : i < (mkIntS k ds).length := by rw [mkIntS_len]; exact hil
      obtain ⟨b, off, cs, Lk, rfl, hbL, _, hrep, hc⟩ := H.out.at_ hml
      have hdr2 := hdr
      rw [List.drop_eq_getElem_cons hml, List.drop_eq_getElem_cons hil, mkIntS] at hdr2
      injection hdr2 with e1 e2
      rw [e1] at hrep
      obtain ⟨rfl, _⟩ := hrep
      have hbl : b < w.heap.size := H.out.lt b hbL
      have hbr : b < wr.heap.size := Nat.lt_of_lt_of_le hbl HB.out.size
      have q0 := (HB.out.cell (p := ⟨b, off + (i * intC.size + 0), none⟩) hbl).trans (hc 0 _ rfl)
      simp only [show intC.size = 1 from rfl, Nat.mul_one, Nat.add_zero] at q0
      have HDn : Hid (kk + 1 = k + (i + 1 : Nat) ∧ (mkIntS k ds).drop (i + 1) = mkIntS (kk + 1) (ds.drop (i + 1))) := ⟨by omega, e2⟩
      clear hc hkk hdr e1 e2
      have i0 : (0 : Int) ≤ i := by omega
      have i1 : (i : Int) < n := by omega
      have hne : ((kk : Int) != kk) = false := by simp
      go_wp2_with fail
      have HBn := HB
      go_roundw
      case rel => exact ⟨i + 1, kk + 1, by omega, by go_num, rfl, by omega, by omega, HDn, HBn⟩
      case measure => simp [intOf]; omega
    · obtain rfl : i = n := by omega
      have hf : Hid (nextIntS k ds = kk) := by
        obtain ⟨h1, _⟩ := HD.out
        have := HN.out; rw [Hid]; simp only [nextIntS]; omega
      go_wp2
      go_ret
      exact ⟨ret_i hf.out.symm, HB.out⟩

set_option maxRecDepth 100000 in
set_option maxHeartbeats 4000000 in
theorem heldStepS_any (A : Option Addr) (n c : Nat) (ds : List StepD) (L : List Nat) (k : Int) (w : World) (hn : n = ds.length) (hm : n ≤ 1048576) (hk0 : 1 ≤ k) (hk1 : nextStepS k ds ≤ 4611686018427387904) (h : Sli cStep w A (mkStepS k ds) L) :
    Calls Try.prog 17 #[.slice A n c, .int .i64 k] w fun e w' => e = .returned (.int .i64 (nextStepS k ds)) ∧ Below w.heap.size w w' := by
  have H := Lib.hid h
  have HN := Lib.hid hn
  have HK := Lib.hid hk1
  clear h hn hk1
  go_enter Try.func17, Try.ntmps17
  go_wp2
  go_loopw [1, 5] (fun q j wr => ∃ (i : Nat) (kk : Int), i ≤ n ∧ j = .int .i64 i ∧ q = .int .i64 kk ∧ 1 ≤ kk ∧ Hid (nextStepS kk (ds.drop i) = nextStepS k ds ∧ (mkStepS k ds).drop i = mkStepS kk (ds.drop i)) ∧ Hid (Below w.heap.size w wr)) (fun _ j _ => n - (intOf j).toNat)
  case atStart => exact ⟨0, k, Nat.zero_le _, rfl, rfl, hk0, ⟨rfl, rfl⟩, Below.refl _ _⟩
  case round =>
    obtain ⟨i, kk, hi, rfl, rfl, h1, HD, HB⟩ := hrel
    by_cases hlt : i < n
    · have hil : i < ds.length := by have := HN.out; omega
      obtain ⟨hkk, hdr⟩ := HD.out
      have hml : i < (mkStepS k ds).length := by rw [mkStepS_len]; exact hil
      obtain ⟨b, off, cs, Lk, rfl, hbL, hLk, hrep, hc⟩ := H.out.at_ hml
      rw [List.drop_eq_getElem_cons hml, List.drop_eq_getElem_cons hil, mkStepS] at hdr
      injection hdr with e1 e2
      rw [e1] at hrep
      clear e1
      have hnext : ds.drop i = ds[i] :: ds.drop (i + 1) := List.drop_eq_getElem_cons _
      rw [hnext] at hkk
      clear hnext
      generalize ds[i] = x at hrep hkk e2
      have hnb : Hid (nextStep kk x ≤ 4611686018427387904) := by
        have := nextStepS_ge (nextStep kk x) (ds.drop (i + 1))
        have hk := HK.out
        rw [← hkk] at hk
        exact Int.le_trans this hk
      have hnb1 := hnb.out
      have hnb2 := nextStep_ge kk x
      unfold nextStep at hnb1 hnb2
      have HDn : Hid (nextStepS (nextStep kk x) (ds.drop (i + 1)) = nextStepS k ds ∧ (mkStepS k ds).drop (i + 1) = mkStepS (nextStep kk x) (ds.drop (i + 1))) := ⟨hkk, e2⟩
      have hbl : b < w.heap.size := H.out.lt b hbL
      clear hkk e2
      obtain ⟨A1, c1, L1, A2, c2, L2, rfl, hLL, t0, t1, n1, m1, s1, n2, m2, s2⟩ := hrep
      have S1 := Lib.hid s1
      have lL1 : Hid (∀ y ∈ L1, y < w.heap.size) := fun y m => H.out.lt y (hLk y (by rw [hLL]; simp [m]))
      have ll1 : (mkStep kk x).fact.args.length = x.fact.args.length := mkStringS_len _ _
      clear s1
      have S2 := Lib.hid s2
      have lL2 : Hid (∀ y ∈ L2, y < w.heap.size) := fun y m => H.out.lt y (hLk y (by rw [hLL]; simp [m]))
      have ll2 : (mkStep kk x).uses.length = x.uses.length := mkIntS_len _ _
      clear s2
      have Q0 := Lib.hid (hc 0 _ rfl)
      have Q1 := Lib.hid (hc 1 _ rfl)
      have Q2 := Lib.hid (hc 2 _ rfl)
      have Q3 := Lib.hid (hc 3 _ rfl)
      unfold maxLen at m1 m2
      rw [ll1] at Q1 n1
      rw [ll2] at Q3 n2
      clear hc ll1 ll2
      have i0 : (0 : Int) ≤ i := by omega
      have i1 : (i : Int) < n := by omega
      have mono_x_fact_args := nextStringS_ge (kk + 1) x.fact.args
      have mono_x_uses := nextIntS_ge (nextStringS (kk + 1) x.fact.args + 1) x.uses
      have q0 : wr.cell? ⟨b, off + i * 4, none⟩ = some (.string (mTx (kk))) := (HB.out.cell (p := ⟨b, off + (i * 4 + 0), none⟩) hbl).trans Q0.out
      have q1 : wr.cell? ⟨b, off + i * 4 + 1, none⟩ = some (.slice A1 x.fact.args.length c1) := (HB.out.cell (p := ⟨b, off + (i * 4 + 1), none⟩) hbl).trans Q1.out
      have q2 : wr.cell? ⟨b, off + i * 4 + 2, none⟩ = some (.string (mTx (nextStringS (kk + 1) x.fact.args))) := (HB.out.cell (p := ⟨b, off + (i * 4 + 2), none⟩) hbl).trans Q2.out
      have q3 : wr.cell? ⟨b, off + i * 4 + 3, none⟩ = some (.slice A2 x.uses.length c2) := (HB.out.cell (p := ⟨b, off + (i * 4 + 3), none⟩) hbl).trans Q3.out
      have hbr : b < wr.heap.size := Nat.lt_of_lt_of_le hbl HB.out.size
      go_wp2_with fail
      go_region_held3 (fun w' => w'.cell? ⟨b, off + i * 4, none⟩ = some (.string (mTx (kk)))) (first | go_keep | exact (hb1.cell (p := ⟨b, off + i * 4, none⟩) hbr).trans q0) (first | (go_at_call 40; refine (markText_int _ _ (by omega) (by omega)).mono ?_; rintro e w1 ⟨rfl, hb1⟩))
      have HB := Lib.hid (HB.out.trans (below_of_drew hb1 HB.out.size))
      clear hb1
      clear q0 q1 q2 q3
      have q0 : w1.cell? ⟨b, off + i * 4, none⟩ = some (.string (mTx (kk))) := (HB.out.cell (p := ⟨b, off + (i * 4 + 0), none⟩) hbl).trans Q0.out
      have q1 : w1.cell? ⟨b, off + i * 4 + 1, none⟩ = some (.slice A1 x.fact.args.length c1) := (HB.out.cell (p := ⟨b, off + (i * 4 + 1), none⟩) hbl).trans Q1.out
      have q2 : w1.cell? ⟨b, off + i * 4 + 2, none⟩ = some (.string (mTx (nextStringS (kk + 1) x.fact.args))) := (HB.out.cell (p := ⟨b, off + (i * 4 + 2), none⟩) hbl).trans Q2.out
      have q3 : w1.cell? ⟨b, off + i * 4 + 3, none⟩ = some (.slice A2 x.uses.length c2) := (HB.out.cell (p := ⟨b, off + (i * 4 + 3), none⟩) hbl).trans Q3.out
      replace hbr : b < w1.heap.size := Nat.lt_of_lt_of_le hbl HB.out.size
      go_wp2_with fail
      refine (heldStringS_any A1 _ c1 x.fact.args L1 _ _ rfl (by omega) (by omega) (S1.out.keep (keep_below HB.out lL1.out))).mono ?_
      rintro e w2 ⟨rfl, hb2⟩
      have HB := Lib.hid (HB.out.trans (hb2.mono HB.out.size))
      clear hb2
      clear q0 q1 q2 q3
      have q0 : w2.cell? ⟨b, off + i * 4, none⟩ = some (.string (mTx (kk))) := (HB.out.cell (p := ⟨b, off + (i * 4 + 0), none⟩) hbl).trans Q0.out
      have q1 : w2.cell? ⟨b, off + i * 4 + 1, none⟩ = some (.slice A1 x.fact.args.length c1) := (HB.out.cell (p := ⟨b, off + (i * 4 + 1), none⟩) hbl).trans Q1.out
      have q2 : w2.cell? ⟨b, off + i * 4 + 2, none⟩ = some (.string (mTx (nextStringS (kk + 1) x.fact.args))) := (HB.out.cell (p := ⟨b, off + (i * 4 + 2), none⟩) hbl).trans Q2.out
      have q3 : w2.cell? ⟨b, off + i * 4 + 3, none⟩ = some (.slice A2 x.uses.length c2) := (HB.out.cell (p := ⟨b, off + (i * 4 + 3), none⟩) hbl).trans Q3.out
      replace hbr : b < w2.heap.size := Nat.lt_of_lt_of_le hbl HB.out.size
      have ge2 : ¬ (nextStringS (kk + 1) x.fact.args < 0) := by omega
      go_wp2_with fail
      go_region_held3 (fun w' => w'.cell? ⟨b, off + i * 4 + 2, none⟩ = some (.string (mTx (nextStringS (kk + 1) x.fact.args)))) (first | go_keep | exact (hb3.cell (p := ⟨b, off + i * 4 + 2, none⟩) hbr).trans q2) (first | (go_at_call 40; refine (markText_int _ _ (by omega) (by omega)).mono ?_; rintro e w3 ⟨rfl, hb3⟩))
      have HB := Lib.hid (HB.out.trans (below_of_drew hb3 HB.out.size))
      clear hb3
      clear q0 q1 q2 q3
      have q0 : w3.cell? ⟨b, off + i * 4, none⟩ = some (.string (mTx (kk))) := (HB.out.cell (p := ⟨b, off + (i * 4 + 0), none⟩) hbl).trans Q0.out
      have q1 : w3.cell? ⟨b, off + i * 4 + 1, none⟩ = some (.slice A1 x.fact.args.length c1) := (HB.out.cell (p := ⟨b, off + (i * 4 + 1), none⟩) hbl).trans Q1.out
      have q2 : w3.cell? ⟨b, off + i * 4 + 2, none⟩ = some (.string (mTx (nextStringS (kk + 1) x.fact.args))) := (HB.out.cell (p := ⟨b, off + (i * 4 + 2), none⟩) hbl).trans Q2.out
      have q3 : w3.cell? ⟨b, off + i * 4 + 3, none⟩ = some (.slice A2 x.uses.length c2) := (HB.out.cell (p := ⟨b, off + (i * 4 + 3), none⟩) hbl).trans Q3.out
      replace hbr : b < w3.heap.size := Nat.lt_of_lt_of_le hbl HB.out.size
      go_wp2_with fail
      refine (heldIntS_any A2 _ c2 x.uses L2 _ _ rfl (by omega) (by omega) (S2.out.keep (keep_below HB.out lL2.out))).mono ?_
      rintro e w4 ⟨rfl, hb4⟩
      have HB := Lib.hid (HB.out.trans (hb4.mono HB.out.size))
      clear hb4
      clear q0 q1 q2 q3
      have q0 : w4.cell? ⟨b, off + i * 4, none⟩ = some (.string (mTx (kk))) := (HB.out.cell (p := ⟨b, off + (i * 4 + 0), none⟩) hbl).trans Q0.out
      have q1 : w4.cell? ⟨b, off + i * 4 + 1, none⟩ = some (.slice A1 x.fact.args.length c1) := (HB.out.cell (p := ⟨b, off + (i * 4 + 1), none⟩) hbl).trans Q1.out
      have q2 : w4.cell? ⟨b, off + i * 4 + 2, none⟩ = some (.string (mTx (nextStringS (kk + 1) x.fact.args))) := (HB.out.cell (p := ⟨b, off + (i * 4 + 2), none⟩) hbl).trans Q2.out
      have q3 : w4.cell? ⟨b, off + i * 4 + 3, none⟩ = some (.slice A2 x.uses.length c2) := (HB.out.cell (p := ⟨b, off + (i * 4 + 3), none⟩) hbl).trans Q3.out
      replace hbr : b < w4.heap.size := Nat.lt_of_lt_of_le hbl HB.out.size
      have ge4 : ¬ (nextIntS (nextStringS (kk + 1) x.fact.args + 1) x.uses < 0) := by omega
      go_wp2_with fail
      go_roundw
      case rel => exact ⟨i + 1, nextStep kk x, by omega, by go_num, rfl, by unfold nextStep; omega, HDn, HB⟩
      case measure => simp [intOf]; omega
    · obtain rfl : i = n := by omega
      have hf : Hid (nextStepS k ds = kk) := by
        obtain ⟨h1, _⟩ := HD.out
        rw [Hid, ← h1, List.drop_of_length_le (by have := HN.out; omega)]; rfl
      go_wp2
      go_ret
      exact ⟨ret_i hf.out.symm, HB.out⟩

end Go.Proofs.Ytfmplnebdldpdaa
