/- Texts of this proof, joined: Held, ExactNewDesk. What each holds is said at its theorems. -/
import Derived.Deep.RegionHeld3
import Derived.Test.YthikodhnkaofaaaGreatDoorProg
import Derived.Test.YthikodhnkaofaaaGreatDoorNewDeskQ2
import Derived.Outline
import Derived.WalkSpells
import Derived.StillTailTactics
import Derived.Test.YthikodhnkaofaaaGreatDoorNewDeskQ1
set_option linter.unusedSimpArgs false
set_option linter.unusedVariables false
namespace Go.Proofs.YthikodhnkaofaaaGreatDoor
section
open Go.RowKit

theorem ZLm {w w1 : World} {B : Nat} (h : Below w.drew.heap.size w.drew w1) (hB : B ≤ w.heap.size) : Below B w w1 := ⟨h.os, h.tape, h.output, h.size, fun k hk => h.block k (Nat.lt_of_lt_of_le hk hB)⟩

set_option maxHeartbeats 1600000 in
theorem ZLZ (A : Option Addr) (n c : Nat) (ds : List ByteArray) (L : List Nat) (k : Int) (w : World) (hn : n = ds.length) (hk0 : 1 ≤ k) (hk1 : Qs k ds ≤ 4611686018427387904) (h : Sli ZsX w A (ZLp k ds) L) :
    Calls Tryz.prog 78 #[.slice A n c, .int .i64 k] w fun e w' => e = .returned (.int .i64 (Qs k ds)) ∧ Below w.heap.size w w' := by
  have H := Lib.hid h
  have HN := Lib.hid hn
  have hk1' : k + n ≤ 4611686018427387904 := by simp only [Qs] at hk1; omega
  clear h hn hk1
  go_enter Tryz.func78, Tryz.ntmps78
  go_wp2
  go_loopw [1, 5] (fun q j wr => ∃ (i : Nat) (kk : Int), i ≤ n ∧ j = .int .i64 i ∧ q = .int .i64 kk ∧ 1 ≤ kk ∧ kk + (n - i : Nat) ≤ 4611686018427387904 ∧ Hid (kk = k + i ∧ (ZLp k ds).drop i = ZLp kk (ds.drop i)) ∧ Hid (Below w.heap.size w wr)) (fun _ j _ => n - (intOf j).toNat)
  case atStart => exact ⟨0, k, Nat.zero_le _, rfl, rfl, hk0, by omega, ⟨by omega, rfl⟩, Below.refl _ _⟩
  case round =>
    obtain ⟨i, kk, hi, rfl, rfl, h1, h2, HD, HB⟩ := hrel
    by_cases hlt : i < n
    · have hil : i < ds.length := by have := HN.out; omega
      obtain ⟨hkk, hdr⟩ := HD.out
      have hml : i < (ZLp k ds).length := by rw [ZLt]; exact hil
      obtain ⟨b, off, cs, Lk, rfl, hbL, _, hrep, hc⟩ := H.out.at_ hml
      have hdr2 := hdr
      rw [List.drop_eq_getElem_cons hml, List.drop_eq_getElem_cons hil, ZLp] at hdr2
      injection hdr2 with e1 e2
      rw [e1] at hrep
      obtain ⟨rfl, _, _⟩ := hrep
      have hbl : b < w.heap.size := H.out.lt b hbL
      have hbr : b < wr.heap.size := Nat.lt_of_lt_of_le hbl HB.out.size
      have q0 := (HB.out.cell (p := ⟨b, off + (i * ZsX.size + 0), none⟩) hbl).trans (hc 0 _ rfl)
      simp only [show ZsX.size = 1 from rfl, Nat.mul_one, Nat.add_zero] at q0
      have HDn : Hid (kk + 1 = k + (i + 1 : Nat) ∧ (ZLp k ds).drop (i + 1) = ZLp (kk + 1) (ds.drop (i + 1))) := ⟨by omega, e2⟩
      clear hc hkk hdr e1 e2
      have i0 : (0 : Int) ≤ i := by omega
      have i1 : (i : Int) < n := by omega
      go_wp2_with fail
      go_region_held3 (fun w' => w'.cell? ⟨b, off + i, none⟩ = some (.string (mTx kk))) (first | go_keep | exact (hb1.cell (p := ⟨b, off + i, none⟩) hbr).trans q0) (first | (go_at_call 71; refine (ZLf _ _ (by omega) (by omega)).mono ?_; rintro e w1 ⟨rfl, hb1⟩))
      have HBn := Lib.hid (HB.out.trans (ZLm hb1 HB.out.size))
      clear hb1
      go_wp2_with fail
      go_roundw
      case rel => exact ⟨i + 1, kk + 1, by omega, by go_num, rfl, by omega, by omega, HDn, HBn⟩
      case measure => simp [intOf]; omega
    · obtain rfl : i = n := by omega
      have hf : Hid (Qs k ds = kk) := by
        obtain ⟨h1, _⟩ := HD.out
        have := HN.out; rw [Hid]; simp only [Qs]; omega
      go_wp2
      go_ret
      exact ⟨ZL2 hf.out.symm, HB.out⟩

set_option maxHeartbeats 1600000 in
theorem ZNM (A : Option Addr) (n c : Nat) (ds : List Int) (L : List Nat) (k : Int) (w : World) (hn : n = ds.length) (hk0 : 1 ≤ k) (hk1 : ZLg k ds ≤ 4611686018427387904) (h : Sli Zj7 w A (ZLY k ds) L) :
    Calls Tryz.prog 46 #[.slice A n c, .int .i64 k] w fun e w' => e = .returned (.int .i64 (ZLg k ds)) ∧ Below w.heap.size w w' := by
  have H := Lib.hid h
  have HN := Lib.hid hn
  have hk1' : k + n ≤ 4611686018427387904 := by simp only [ZLg] at hk1; omega
  clear h hn hk1
  go_enter Tryz.func46, Tryz.ntmps46
  go_wp2
  go_loopw [1, 5] (fun q j wr => ∃ (i : Nat) (kk : Int), i ≤ n ∧ j = .int .i64 i ∧ q = .int .i64 kk ∧ 1 ≤ kk ∧ kk + (n - i : Nat) ≤ 4611686018427387904 ∧ Hid (kk = k + i ∧ (ZLY k ds).drop i = ZLY kk (ds.drop i)) ∧ Hid (Below w.heap.size w wr)) (fun _ j _ => n - (intOf j).toNat)
  case atStart => exact ⟨0, k, Nat.zero_le _, rfl, rfl, hk0, by omega, ⟨by omega, rfl⟩, Below.refl _ _⟩
  case round =>
    obtain ⟨i, kk, hi, rfl, rfl, h1, h2, HD, HB⟩ := hrel
    by_cases hlt : i < n
    · have hil : i < ds.length := by have := HN.out; omega
      obtain ⟨hkk, hdr⟩ := HD.out
      have hml : i < (ZLY k ds).length := by rw [ZMu]; exact hil
      obtain ⟨b, off, cs, Lk, rfl, hbL, _, hrep, hc⟩ := H.out.at_ hml
      have hdr2 := hdr
      rw [List.drop_eq_getElem_cons hml, List.drop_eq_getElem_cons hil, ZLY] at hdr2
      injection hdr2 with e1 e2
      rw [e1] at hrep
      obtain ⟨rfl, _⟩ := hrep
      have hbl : b < w.heap.size := H.out.lt b hbL
      have hbr : b < wr.heap.size := Nat.lt_of_lt_of_le hbl HB.out.size
      have q0 := (HB.out.cell (p := ⟨b, off + (i * Zj7.size + 0), none⟩) hbl).trans (hc 0 _ rfl)
      simp only [show Zj7.size = 1 from rfl, Nat.mul_one, Nat.add_zero] at q0
      have HDn : Hid (kk + 1 = k + (i + 1 : Nat) ∧ (ZLY k ds).drop (i + 1) = ZLY (kk + 1) (ds.drop (i + 1))) := ⟨by omega, e2⟩
      clear hc hkk hdr e1 e2
      have i0 : (0 : Int) ≤ i := by omega
      have i1 : (i : Int) < n := by omega
      have hne : ((kk : Int) != kk) = false := by simp
      go_wp2_with fail
      have HBn := HB
      go_roundw
      case rel => exact ⟨i + 1, kk + 1, by omega, by go_num, rfl, by omega, by omega, HDn, HBn⟩
      case measure => simp [intOf]; omega
    · obtain rfl : i = n := by omega
      have hf : Hid (ZLg k ds = kk) := by
        obtain ⟨h1, _⟩ := HD.out
        have := HN.out; rw [Hid]; simp only [ZLg]; omega
      go_wp2
      go_ret
      exact ⟨ZL2 hf.out.symm, HB.out⟩

set_option maxRecDepth 100000 in
set_option maxHeartbeats 4000000 in
theorem ZMQ (A : Option Addr) (n c : Nat) (ds : List Za) (L : List Nat) (k : Int) (w : World) (hn : n = ds.length) (hm : n ≤ 9223372036854775807) (hk0 : 1 ≤ k) (hk1 : ZLl k ds ≤ 4611686018427387904) (h : Sli Yf w A (ZLK k ds) L) :
    Calls Tryz.prog 49 #[.slice A n c, .int .i64 k] w fun e w' => e = .returned (.int .i64 (ZLl k ds)) ∧ Below w.heap.size w w' := by
  have H := Lib.hid h
  have HN := Lib.hid hn
  have HK := Lib.hid hk1
  clear h hn hk1
  go_enter Tryz.func49, Tryz.ntmps49
  go_wp2
  go_loopw [1, 5] (fun q j wr => ∃ (i : Nat) (kk : Int), i ≤ n ∧ j = .int .i64 i ∧ q = .int .i64 kk ∧ 1 ≤ kk ∧ Hid (ZLl kk (ds.drop i) = ZLl k ds ∧ (ZLK k ds).drop i = ZLK kk (ds.drop i)) ∧ Hid (Below w.heap.size w wr)) (fun _ j _ => n - (intOf j).toNat)
  case atStart => exact ⟨0, k, Nat.zero_le _, rfl, rfl, hk0, ⟨rfl, rfl⟩, Below.refl _ _⟩
  case round =>
    obtain ⟨i, kk, hi, rfl, rfl, h1, HD, HB⟩ := hrel
    by_cases hlt : i < n
    · have hil : i < ds.length := by have := HN.out; omega
      obtain ⟨hkk, hdr⟩ := HD.out
      have hml : i < (ZLK k ds).length := by rw [ZMd]; exact hil
      obtain ⟨b, off, cs, Lk, rfl, hbL, hLk, hrep, hc⟩ := H.out.at_ hml
      rw [List.drop_eq_getElem_cons hml, List.drop_eq_getElem_cons hil, ZLK] at hdr
      injection hdr with e1 e2
      rw [e1] at hrep
      clear e1
      have hnext : ds.drop i = ds[i] :: ds.drop (i + 1) := List.drop_eq_getElem_cons _
      rw [hnext] at hkk
      clear hnext
      generalize ds[i] = x at hrep hkk e2
      have hnb : Hid (ZLL kk x ≤ 4611686018427387904) := by
        have := ZLT (ZLL kk x) (ds.drop (i + 1))
        have hk := HK.out
        rw [← hkk] at hk
        exact Int.le_trans this hk
      have hnb1 := hnb.out
      have hnb2 := ZM7 kk x
      unfold ZLL at hnb1 hnb2
      have HDn : Hid (ZLl (ZLL kk x) (ds.drop (i + 1)) = ZLl k ds ∧ (ZLK k ds).drop (i + 1) = ZLK (ZLL kk x) (ds.drop (i + 1))) := ⟨hkk, e2⟩
      have hbl : b < w.heap.size := H.out.lt b hbL
      clear hkk e2
      obtain ⟨A1, c1, L1, rfl, hLL, t0, n1, m1, s1⟩ := hrep
      have S1 := Lib.hid s1
      have lL1 : Hid (∀ y ∈ L1, y < w.heap.size) := fun y m => H.out.lt y (hLk y (by rw [hLL]; simp [m]))
      have ll1 : (ZM8 kk x).args.length = x.args.length := ZLt _ _
      clear s1
      have Q0 := Lib.hid (hc 0 _ rfl)
      have Q1 := Lib.hid (hc 1 _ rfl)
      unfold maxLen at m1
      rw [ll1] at Q1 n1
      clear hc ll1
      have i0 : (0 : Int) ≤ i := by omega
      have i1 : (i : Int) < n := by omega
      have mono_x_args := ZLj (kk + 1) x.args
      have q0 : wr.cell? ⟨b, off + i * 2, none⟩ = some (.string (mTx (kk))) := (HB.out.cell (p := ⟨b, off + (i * 2 + 0), none⟩) hbl).trans Q0.out
      have q1 : wr.cell? ⟨b, off + i * 2 + 1, none⟩ = some (.slice A1 x.args.length c1) := (HB.out.cell (p := ⟨b, off + (i * 2 + 1), none⟩) hbl).trans Q1.out
      have hbr : b < wr.heap.size := Nat.lt_of_lt_of_le hbl HB.out.size
      go_wp2_with fail
      go_region_held3 (fun w' => w'.cell? ⟨b, off + i * 2, none⟩ = some (.string (mTx (kk)))) (first | go_keep | exact (hb1.cell (p := ⟨b, off + i * 2, none⟩) hbr).trans q0) (first | (go_at_call 71; refine (ZLf _ _ (by omega) (by omega)).mono ?_; rintro e w1 ⟨rfl, hb1⟩))
      have HB := Lib.hid (HB.out.trans (ZLm hb1 HB.out.size))
      clear hb1
      clear q0 q1
      have q0 : w1.cell? ⟨b, off + i * 2, none⟩ = some (.string (mTx (kk))) := (HB.out.cell (p := ⟨b, off + (i * 2 + 0), none⟩) hbl).trans Q0.out
      have q1 : w1.cell? ⟨b, off + i * 2 + 1, none⟩ = some (.slice A1 x.args.length c1) := (HB.out.cell (p := ⟨b, off + (i * 2 + 1), none⟩) hbl).trans Q1.out
      replace hbr : b < w1.heap.size := Nat.lt_of_lt_of_le hbl HB.out.size
      go_wp2_with fail
      refine (ZLZ A1 _ c1 x.args L1 _ _ rfl (by omega) (by omega) (S1.out.keep (Qu HB.out lL1.out))).mono ?_
      rintro e w2 ⟨rfl, hb2⟩
      have HB := Lib.hid (HB.out.trans (hb2.mono HB.out.size))
      clear hb2
      clear q0 q1
      have q0 : w2.cell? ⟨b, off + i * 2, none⟩ = some (.string (mTx (kk))) := (HB.out.cell (p := ⟨b, off + (i * 2 + 0), none⟩) hbl).trans Q0.out
      have q1 : w2.cell? ⟨b, off + i * 2 + 1, none⟩ = some (.slice A1 x.args.length c1) := (HB.out.cell (p := ⟨b, off + (i * 2 + 1), none⟩) hbl).trans Q1.out
      replace hbr : b < w2.heap.size := Nat.lt_of_lt_of_le hbl HB.out.size
      have ge2 : ¬ (Qs (kk + 1) x.args < 0) := by omega
      go_wp2_with fail
      go_roundw
      case rel => exact ⟨i + 1, ZLL kk x, by omega, by go_num, rfl, by unfold ZLL; omega, HDn, HB⟩
      case measure => simp [intOf]; omega
    · obtain rfl : i = n := by omega
      have hf : Hid (ZLl k ds = kk) := by
        obtain ⟨h1, _⟩ := HD.out
        rw [Hid, ← h1, List.drop_of_length_le (by have := HN.out; omega)]; rfl
      go_wp2
      go_ret
      exact ⟨ZL2 hf.out.symm, HB.out⟩

set_option maxRecDepth 100000 in
set_option maxHeartbeats 4000000 in
theorem ZOL (A : Option Addr) (n c : Nat) (ds : List Zx) (L : List Nat) (k : Int) (w : World) (hn : n = ds.length) (hm : n ≤ 9223372036854775807) (hk0 : 1 ≤ k) (hk1 : ZLE k ds ≤ 4611686018427387904) (h : Sli ZDh w A (ZL1 k ds) L) :
    Calls Tryz.prog 119 #[.slice A n c, .int .i64 k] w fun e w' => e = .returned (.int .i64 (ZLE k ds)) ∧ Below w.heap.size w w' := by
  have H := Lib.hid h
  have HN := Lib.hid hn
  have HK := Lib.hid hk1
  clear h hn hk1
  go_enter Tryz.func119, Tryz.ntmps119
  go_wp2
  go_loopw [1, 5] (fun q j wr => ∃ (i : Nat) (kk : Int), i ≤ n ∧ j = .int .i64 i ∧ q = .int .i64 kk ∧ 1 ≤ kk ∧ Hid (ZLE kk (ds.drop i) = ZLE k ds ∧ (ZL1 k ds).drop i = ZL1 kk (ds.drop i)) ∧ Hid (Below w.heap.size w wr)) (fun _ j _ => n - (intOf j).toNat)
  case atStart => exact ⟨0, k, Nat.zero_le _, rfl, rfl, hk0, ⟨rfl, rfl⟩, Below.refl _ _⟩
  case round =>
    obtain ⟨i, kk, hi, rfl, rfl, h1, HD, HB⟩ := hrel
    by_cases hlt : i < n
    · have hil : i < ds.length := by have := HN.out; omega
      obtain ⟨hkk, hdr⟩ := HD.out
      have hml : i < (ZL1 k ds).length := by rw [ZM9]; exact hil
      obtain ⟨b, off, cs, Lk, rfl, hbL, hLk, hrep, hc⟩ := H.out.at_ hml
      rw [List.drop_eq_getElem_cons hml, List.drop_eq_getElem_cons hil, ZL1] at hdr
      injection hdr with e1 e2
      rw [e1] at hrep
      clear e1
      have hnext : ds.drop i = ds[i] :: ds.drop (i + 1) := List.drop_eq_getElem_cons _
      rw [hnext] at hkk
      clear hnext
      generalize ds[i] = x at hrep hkk e2
      have hnb : Hid (ZLN kk x ≤ 4611686018427387904) := by
        have := ZMr (ZLN kk x) (ds.drop (i + 1))
        have hk := HK.out
        rw [← hkk] at hk
        exact Int.le_trans this hk
      have hnb1 := hnb.out
      have hnb2 := ZNd kk x
      unfold ZLN at hnb1 hnb2
      have HDn : Hid (ZLE (ZLN kk x) (ds.drop (i + 1)) = ZLE k ds ∧ (ZL1 k ds).drop (i + 1) = ZL1 (ZLN kk x) (ds.drop (i + 1))) := ⟨hkk, e2⟩
      have hbl : b < w.heap.size := H.out.lt b hbL
      clear hkk e2
      obtain ⟨rfl, hLL, t0, t1⟩ := hrep
      have Q0 := Lib.hid (hc 0 _ rfl)
      have Q1 := Lib.hid (hc 1 _ rfl)
      clear hc
      have i0 : (0 : Int) ≤ i := by omega
      have i1 : (i : Int) < n := by omega
      have q0 : wr.cell? ⟨b, off + i * 2, none⟩ = some (.string (mTx (kk))) := (HB.out.cell (p := ⟨b, off + (i * 2 + 0), none⟩) hbl).trans Q0.out
      have q1 : wr.cell? ⟨b, off + i * 2 + 1, none⟩ = some (.string (mTx (kk + 1))) := (HB.out.cell (p := ⟨b, off + (i * 2 + 1), none⟩) hbl).trans Q1.out
      have hbr : b < wr.heap.size := Nat.lt_of_lt_of_le hbl HB.out.size
      go_wp2_with fail
      go_region_held3 (fun w' => w'.cell? ⟨b, off + i * 2, none⟩ = some (.string (mTx (kk)))) (first | go_keep | exact (hb1.cell (p := ⟨b, off + i * 2, none⟩) hbr).trans q0) (first | (go_at_call 71; refine (ZLf _ _ (by omega) (by omega)).mono ?_; rintro e w1 ⟨rfl, hb1⟩))
      have HB := Lib.hid (HB.out.trans (ZLm hb1 HB.out.size))
      clear hb1
      clear q0 q1
      have q0 : w1.cell? ⟨b, off + i * 2, none⟩ = some (.string (mTx (kk))) := (HB.out.cell (p := ⟨b, off + (i * 2 + 0), none⟩) hbl).trans Q0.out
      have q1 : w1.cell? ⟨b, off + i * 2 + 1, none⟩ = some (.string (mTx (kk + 1))) := (HB.out.cell (p := ⟨b, off + (i * 2 + 1), none⟩) hbl).trans Q1.out
      replace hbr : b < w1.heap.size := Nat.lt_of_lt_of_le hbl HB.out.size
      go_wp2_with fail
      go_region_held3 (fun w' => w'.cell? ⟨b, off + i * 2 + 1, none⟩ = some (.string (mTx (kk + 1)))) (first | go_keep | exact (hb2.cell (p := ⟨b, off + i * 2 + 1, none⟩) hbr).trans q1) (first | (go_at_call 71; refine (ZLf _ _ (by omega) (by omega)).mono ?_; rintro e w2 ⟨rfl, hb2⟩))
      have HB := Lib.hid (HB.out.trans (ZLm hb2 HB.out.size))
      clear hb2
      clear q0 q1
      have q0 : w2.cell? ⟨b, off + i * 2, none⟩ = some (.string (mTx (kk))) := (HB.out.cell (p := ⟨b, off + (i * 2 + 0), none⟩) hbl).trans Q0.out
      have q1 : w2.cell? ⟨b, off + i * 2 + 1, none⟩ = some (.string (mTx (kk + 1))) := (HB.out.cell (p := ⟨b, off + (i * 2 + 1), none⟩) hbl).trans Q1.out
      replace hbr : b < w2.heap.size := Nat.lt_of_lt_of_le hbl HB.out.size
      go_wp2_with fail
      go_roundw
      case rel => exact ⟨i + 1, ZLN kk x, by omega, by go_num, rfl, by unfold ZLN; omega, HDn, HB⟩
      case measure => simp [intOf]; omega
    · obtain rfl : i = n := by omega
      have hf : Hid (ZLE k ds = kk) := by
        obtain ⟨h1, _⟩ := HD.out
        rw [Hid, ← h1, List.drop_of_length_le (by have := HN.out; omega)]; rfl
      go_wp2
      go_ret
      exact ⟨ZL2 hf.out.symm, HB.out⟩

set_option maxRecDepth 100000 in
set_option maxHeartbeats 4000000 in
theorem ZOR (A : Option Addr) (n c : Nat) (ds : List Zu) (L : List Nat) (k : Int) (w : World) (hn : n = ds.length) (hm : n ≤ 9223372036854775807) (hk0 : 1 ≤ k) (hk1 : ZLo k ds ≤ 4611686018427387904) (h : Sli ZC9 w A (ZL0 k ds) L) :
    Calls Tryz.prog 76 #[.slice A n c, .int .i64 k] w fun e w' => e = .returned (.int .i64 (ZLo k ds)) ∧ Below w.heap.size w w' := by
  have H := Lib.hid h
  have HN := Lib.hid hn
  have HK := Lib.hid hk1
  clear h hn hk1
  go_enter Tryz.func76, Tryz.ntmps76
  go_wp2
  go_loopw [1, 5] (fun q j wr => ∃ (i : Nat) (kk : Int), i ≤ n ∧ j = .int .i64 i ∧ q = .int .i64 kk ∧ 1 ≤ kk ∧ Hid (ZLo kk (ds.drop i) = ZLo k ds ∧ (ZL0 k ds).drop i = ZL0 kk (ds.drop i)) ∧ Hid (Below w.heap.size w wr)) (fun _ j _ => n - (intOf j).toNat)
  case atStart => exact ⟨0, k, Nat.zero_le _, rfl, rfl, hk0, ⟨rfl, rfl⟩, Below.refl _ _⟩
  case round =>
    obtain ⟨i, kk, hi, rfl, rfl, h1, HD, HB⟩ := hrel
    by_cases hlt : i < n
    · have hil : i < ds.length := by have := HN.out; omega
      obtain ⟨hkk, hdr⟩ := HD.out
      have hml : i < (ZL0 k ds).length := by rw [ZNm]; exact hil
      obtain ⟨b, off, cs, Lk, rfl, hbL, hLk, hrep, hc⟩ := H.out.at_ hml
      rw [List.drop_eq_getElem_cons hml, List.drop_eq_getElem_cons hil, ZL0] at hdr
      injection hdr with e1 e2
      rw [e1] at hrep
      clear e1
      have hnext : ds.drop i = ds[i] :: ds.drop (i + 1) := List.drop_eq_getElem_cons _
      rw [hnext] at hkk
      clear hnext
      generalize ds[i] = x at hrep hkk e2
      have hnb : Hid (ZLO kk x ≤ 4611686018427387904) := by
        have := ZMt (ZLO kk x) (ds.drop (i + 1))
        have hk := HK.out
        rw [← hkk] at hk
        exact Int.le_trans this hk
      have hnb1 := hnb.out
      have hnb2 := ZNf kk x
      unfold ZLO at hnb1 hnb2
      have HDn : Hid (ZLo (ZLO kk x) (ds.drop (i + 1)) = ZLo k ds ∧ (ZL0 k ds).drop (i + 1) = ZL0 (ZLO kk x) (ds.drop (i + 1))) := ⟨hkk, e2⟩
      have hbl : b < w.heap.size := H.out.lt b hbL
      clear hkk e2
      obtain ⟨A1, c1, L1, rfl, hLL, t0, t1, t2, n1, m1, s1⟩ := hrep
      have S1 := Lib.hid s1
      have lL1 : Hid (∀ y ∈ L1, y < w.heap.size) := fun y m => H.out.lt y (hLk y (by rw [hLL]; simp [m]))
      have ll1 : (ZNh kk x).pattern.args.length = x.pattern.args.length := ZLt _ _
      clear s1
      have Q0 := Lib.hid (hc 0 _ rfl)
      have Q1 := Lib.hid (hc 1 _ rfl)
      have Q2 := Lib.hid (hc 2 _ rfl)
      have Q3 := Lib.hid (hc 3 _ rfl)
      have Q4 := Lib.hid (hc 4 _ rfl)
      unfold maxLen at m1
      rw [ll1] at Q2 n1
      clear hc ll1
      have i0 : (0 : Int) ≤ i := by omega
      have i1 : (i : Int) < n := by omega
      have mono_x_pattern_args := ZLj (kk + 1 + 1) x.pattern.args
      have q0 : wr.cell? ⟨b, off + i * 5, none⟩ = some (.int .i64 (kk)) := (HB.out.cell (p := ⟨b, off + (i * 5 + 0), none⟩) hbl).trans Q0.out
      have q1 : wr.cell? ⟨b, off + i * 5 + 1, none⟩ = some (.string (mTx (kk + 1))) := (HB.out.cell (p := ⟨b, off + (i * 5 + 1), none⟩) hbl).trans Q1.out
      have q2 : wr.cell? ⟨b, off + i * 5 + 2, none⟩ = some (.slice A1 x.pattern.args.length c1) := (HB.out.cell (p := ⟨b, off + (i * 5 + 2), none⟩) hbl).trans Q2.out
      have q3 : wr.cell? ⟨b, off + i * 5 + 3, none⟩ = some (.string (mTx (Qs (kk + 1 + 1) x.pattern.args))) := (HB.out.cell (p := ⟨b, off + (i * 5 + 3), none⟩) hbl).trans Q3.out
      have q4 : wr.cell? ⟨b, off + i * 5 + 4, none⟩ = some (.string (mTx (Qs (kk + 1 + 1) x.pattern.args + 1))) := (HB.out.cell (p := ⟨b, off + (i * 5 + 4), none⟩) hbl).trans Q4.out
      have hbr : b < wr.heap.size := Nat.lt_of_lt_of_le hbl HB.out.size
      go_wp2_with fail
      go_region_held3 (fun w' => w'.cell? ⟨b, off + i * 5 + 1, none⟩ = some (.string (mTx (kk + 1)))) (first | go_keep | exact (hb1.cell (p := ⟨b, off + i * 5 + 1, none⟩) hbr).trans q1) (first | (go_at_call 71; refine (ZLf _ _ (by omega) (by omega)).mono ?_; rintro e w1 ⟨rfl, hb1⟩))
      have HB := Lib.hid (HB.out.trans (ZLm hb1 HB.out.size))
      clear hb1
      clear q0 q1 q2 q3 q4
      have q0 : w1.cell? ⟨b, off + i * 5, none⟩ = some (.int .i64 (kk)) := (HB.out.cell (p := ⟨b, off + (i * 5 + 0), none⟩) hbl).trans Q0.out
      have q1 : w1.cell? ⟨b, off + i * 5 + 1, none⟩ = some (.string (mTx (kk + 1))) := (HB.out.cell (p := ⟨b, off + (i * 5 + 1), none⟩) hbl).trans Q1.out
      have q2 : w1.cell? ⟨b, off + i * 5 + 2, none⟩ = some (.slice A1 x.pattern.args.length c1) := (HB.out.cell (p := ⟨b, off + (i * 5 + 2), none⟩) hbl).trans Q2.out
      have q3 : w1.cell? ⟨b, off + i * 5 + 3, none⟩ = some (.string (mTx (Qs (kk + 1 + 1) x.pattern.args))) := (HB.out.cell (p := ⟨b, off + (i * 5 + 3), none⟩) hbl).trans Q3.out
      have q4 : w1.cell? ⟨b, off + i * 5 + 4, none⟩ = some (.string (mTx (Qs (kk + 1 + 1) x.pattern.args + 1))) := (HB.out.cell (p := ⟨b, off + (i * 5 + 4), none⟩) hbl).trans Q4.out
      replace hbr : b < w1.heap.size := Nat.lt_of_lt_of_le hbl HB.out.size
      go_wp2_with fail
      refine (ZLZ A1 _ c1 x.pattern.args L1 _ _ rfl (by omega) (by omega) (S1.out.keep (Qu HB.out lL1.out))).mono ?_
      rintro e w2 ⟨rfl, hb2⟩
      have HB := Lib.hid (HB.out.trans (hb2.mono HB.out.size))
      clear hb2
      clear q0 q1 q2 q3 q4
      have q0 : w2.cell? ⟨b, off + i * 5, none⟩ = some (.int .i64 (kk)) := (HB.out.cell (p := ⟨b, off + (i * 5 + 0), none⟩) hbl).trans Q0.out
      have q1 : w2.cell? ⟨b, off + i * 5 + 1, none⟩ = some (.string (mTx (kk + 1))) := (HB.out.cell (p := ⟨b, off + (i * 5 + 1), none⟩) hbl).trans Q1.out
      have q2 : w2.cell? ⟨b, off + i * 5 + 2, none⟩ = some (.slice A1 x.pattern.args.length c1) := (HB.out.cell (p := ⟨b, off + (i * 5 + 2), none⟩) hbl).trans Q2.out
      have q3 : w2.cell? ⟨b, off + i * 5 + 3, none⟩ = some (.string (mTx (Qs (kk + 1 + 1) x.pattern.args))) := (HB.out.cell (p := ⟨b, off + (i * 5 + 3), none⟩) hbl).trans Q3.out
      have q4 : w2.cell? ⟨b, off + i * 5 + 4, none⟩ = some (.string (mTx (Qs (kk + 1 + 1) x.pattern.args + 1))) := (HB.out.cell (p := ⟨b, off + (i * 5 + 4), none⟩) hbl).trans Q4.out
      replace hbr : b < w2.heap.size := Nat.lt_of_lt_of_le hbl HB.out.size
      have ge2 : ¬ (Qs (kk + 1 + 1) x.pattern.args < 0) := by omega
      go_wp2_with fail
      go_region_held3 (fun w' => w'.cell? ⟨b, off + i * 5 + 3, none⟩ = some (.string (mTx (Qs (kk + 1 + 1) x.pattern.args)))) (first | go_keep | exact (hb3.cell (p := ⟨b, off + i * 5 + 3, none⟩) hbr).trans q3) (first | (go_at_call 71; refine (ZLf _ _ (by omega) (by omega)).mono ?_; rintro e w3 ⟨rfl, hb3⟩))
      have HB := Lib.hid (HB.out.trans (ZLm hb3 HB.out.size))
      clear hb3
      clear q0 q1 q2 q3 q4
      have q0 : w3.cell? ⟨b, off + i * 5, none⟩ = some (.int .i64 (kk)) := (HB.out.cell (p := ⟨b, off + (i * 5 + 0), none⟩) hbl).trans Q0.out
      have q1 : w3.cell? ⟨b, off + i * 5 + 1, none⟩ = some (.string (mTx (kk + 1))) := (HB.out.cell (p := ⟨b, off + (i * 5 + 1), none⟩) hbl).trans Q1.out
      have q2 : w3.cell? ⟨b, off + i * 5 + 2, none⟩ = some (.slice A1 x.pattern.args.length c1) := (HB.out.cell (p := ⟨b, off + (i * 5 + 2), none⟩) hbl).trans Q2.out
      have q3 : w3.cell? ⟨b, off + i * 5 + 3, none⟩ = some (.string (mTx (Qs (kk + 1 + 1) x.pattern.args))) := (HB.out.cell (p := ⟨b, off + (i * 5 + 3), none⟩) hbl).trans Q3.out
      have q4 : w3.cell? ⟨b, off + i * 5 + 4, none⟩ = some (.string (mTx (Qs (kk + 1 + 1) x.pattern.args + 1))) := (HB.out.cell (p := ⟨b, off + (i * 5 + 4), none⟩) hbl).trans Q4.out
      replace hbr : b < w3.heap.size := Nat.lt_of_lt_of_le hbl HB.out.size
      go_wp2_with fail
      go_region_held3 (fun w' => w'.cell? ⟨b, off + i * 5 + 4, none⟩ = some (.string (mTx (Qs (kk + 1 + 1) x.pattern.args + 1)))) (first | go_keep | exact (hb4.cell (p := ⟨b, off + i * 5 + 4, none⟩) hbr).trans q4) (first | (go_at_call 71; refine (ZLf _ _ (by omega) (by omega)).mono ?_; rintro e w4 ⟨rfl, hb4⟩))
      have HB := Lib.hid (HB.out.trans (ZLm hb4 HB.out.size))
      clear hb4
      clear q0 q1 q2 q3 q4
      have q0 : w4.cell? ⟨b, off + i * 5, none⟩ = some (.int .i64 (kk)) := (HB.out.cell (p := ⟨b, off + (i * 5 + 0), none⟩) hbl).trans Q0.out
      have q1 : w4.cell? ⟨b, off + i * 5 + 1, none⟩ = some (.string (mTx (kk + 1))) := (HB.out.cell (p := ⟨b, off + (i * 5 + 1), none⟩) hbl).trans Q1.out
      have q2 : w4.cell? ⟨b, off + i * 5 + 2, none⟩ = some (.slice A1 x.pattern.args.length c1) := (HB.out.cell (p := ⟨b, off + (i * 5 + 2), none⟩) hbl).trans Q2.out
      have q3 : w4.cell? ⟨b, off + i * 5 + 3, none⟩ = some (.string (mTx (Qs (kk + 1 + 1) x.pattern.args))) := (HB.out.cell (p := ⟨b, off + (i * 5 + 3), none⟩) hbl).trans Q3.out
      have q4 : w4.cell? ⟨b, off + i * 5 + 4, none⟩ = some (.string (mTx (Qs (kk + 1 + 1) x.pattern.args + 1))) := (HB.out.cell (p := ⟨b, off + (i * 5 + 4), none⟩) hbl).trans Q4.out
      replace hbr : b < w4.heap.size := Nat.lt_of_lt_of_le hbl HB.out.size
      go_wp2_with fail
      go_roundw
      case rel => exact ⟨i + 1, ZLO kk x, by omega, by go_num, rfl, by unfold ZLO; omega, HDn, HB⟩
      case measure => simp [intOf]; omega
    · obtain rfl : i = n := by omega
      have hf : Hid (ZLo k ds = kk) := by
        obtain ⟨h1, _⟩ := HD.out
        rw [Hid, ← h1, List.drop_of_length_le (by have := HN.out; omega)]; rfl
      go_wp2
      go_ret
      exact ⟨ZL2 hf.out.symm, HB.out⟩

set_option maxRecDepth 100000 in
set_option maxHeartbeats 4000000 in
theorem ZOg (A : Option Addr) (n c : Nat) (ds : List Zy) (L : List Nat) (k : Int) (w : World) (hn : n = ds.length) (hm : n ≤ 9223372036854775807) (hk0 : 1 ≤ k) (hk1 : ZLn k ds ≤ 4611686018427387904) (h : Sli ZxH w A (ZLJ k ds) L) :
    Calls Tryz.prog 77 #[.slice A n c, .int .i64 k] w fun e w' => e = .returned (.int .i64 (ZLn k ds)) ∧ Below w.heap.size w w' := by
  have H := Lib.hid h
  have HN := Lib.hid hn
  have HK := Lib.hid hk1
  clear h hn hk1
  go_enter Tryz.func77, Tryz.ntmps77
  go_wp2
  go_loopw [1, 5] (fun q j wr => ∃ (i : Nat) (kk : Int), i ≤ n ∧ j = .int .i64 i ∧ q = .int .i64 kk ∧ 1 ≤ kk ∧ Hid (ZLn kk (ds.drop i) = ZLn k ds ∧ (ZLJ k ds).drop i = ZLJ kk (ds.drop i)) ∧ Hid (Below w.heap.size w wr)) (fun _ j _ => n - (intOf j).toNat)
  case atStart => exact ⟨0, k, Nat.zero_le _, rfl, rfl, hk0, ⟨rfl, rfl⟩, Below.refl _ _⟩
  case round =>
    obtain ⟨i, kk, hi, rfl, rfl, h1, HD, HB⟩ := hrel
    by_cases hlt : i < n
    · have hil : i < ds.length := by have := HN.out; omega
      obtain ⟨hkk, hdr⟩ := HD.out
      have hml : i < (ZLJ k ds).length := by rw [ZMM]; exact hil
      obtain ⟨b, off, cs, Lk, rfl, hbL, hLk, hrep, hc⟩ := H.out.at_ hml
      rw [List.drop_eq_getElem_cons hml, List.drop_eq_getElem_cons hil, ZLJ] at hdr
      injection hdr with e1 e2
      rw [e1] at hrep
      clear e1
      have hnext : ds.drop i = ds[i] :: ds.drop (i + 1) := List.drop_eq_getElem_cons _
      rw [hnext] at hkk
      clear hnext
      generalize ds[i] = x at hrep hkk e2
      have hnb : Hid (ZLu kk x ≤ 4611686018427387904) := by
        have := ZMf (ZLu kk x) (ds.drop (i + 1))
        have hk := HK.out
        rw [← hkk] at hk
        exact Int.le_trans this hk
      have hnb1 := hnb.out
      have hnb2 := ZMP kk x
      unfold ZLu at hnb1 hnb2
      have HDn : Hid (ZLn (ZLu kk x) (ds.drop (i + 1)) = ZLn k ds ∧ (ZLJ k ds).drop (i + 1) = ZLJ (ZLu kk x) (ds.drop (i + 1))) := ⟨hkk, e2⟩
      have hbl : b < w.heap.size := H.out.lt b hbL
      clear hkk e2
      obtain ⟨A1, c1, L1, rfl, hLL, t0, n1, m1, s1⟩ := hrep
      have S1 := Lib.hid s1
      have lL1 : Hid (∀ y ∈ L1, y < w.heap.size) := fun y m => H.out.lt y (hLk y (by rw [hLL]; simp [m]))
      have ll1 : (ZMy kk x).pattern.args.length = x.pattern.args.length := ZLt _ _
      clear s1
      have Q0 := Lib.hid (hc 0 _ rfl)
      have Q1 := Lib.hid (hc 1 _ rfl)
      have Q2 := Lib.hid (hc 2 _ rfl)
      unfold maxLen at m1
      rw [ll1] at Q2 n1
      clear hc ll1
      have i0 : (0 : Int) ≤ i := by omega
      have i1 : (i : Int) < n := by omega
      have mono_x_pattern_args := ZLj (kk + 1 + 1) x.pattern.args
      have q0 : wr.cell? ⟨b, off + i * 3, none⟩ = some (.int .i64 (kk)) := (HB.out.cell (p := ⟨b, off + (i * 3 + 0), none⟩) hbl).trans Q0.out
      have q1 : wr.cell? ⟨b, off + i * 3 + 1, none⟩ = some (.string (mTx (kk + 1))) := (HB.out.cell (p := ⟨b, off + (i * 3 + 1), none⟩) hbl).trans Q1.out
      have q2 : wr.cell? ⟨b, off + i * 3 + 2, none⟩ = some (.slice A1 x.pattern.args.length c1) := (HB.out.cell (p := ⟨b, off + (i * 3 + 2), none⟩) hbl).trans Q2.out
      have hbr : b < wr.heap.size := Nat.lt_of_lt_of_le hbl HB.out.size
      go_wp2_with fail
      go_region_held3 (fun w' => w'.cell? ⟨b, off + i * 3 + 1, none⟩ = some (.string (mTx (kk + 1)))) (first | go_keep | exact (hb1.cell (p := ⟨b, off + i * 3 + 1, none⟩) hbr).trans q1) (first | (go_at_call 71; refine (ZLf _ _ (by omega) (by omega)).mono ?_; rintro e w1 ⟨rfl, hb1⟩))
      have HB := Lib.hid (HB.out.trans (ZLm hb1 HB.out.size))
      clear hb1
      clear q0 q1 q2
      have q0 : w1.cell? ⟨b, off + i * 3, none⟩ = some (.int .i64 (kk)) := (HB.out.cell (p := ⟨b, off + (i * 3 + 0), none⟩) hbl).trans Q0.out
      have q1 : w1.cell? ⟨b, off + i * 3 + 1, none⟩ = some (.string (mTx (kk + 1))) := (HB.out.cell (p := ⟨b, off + (i * 3 + 1), none⟩) hbl).trans Q1.out
      have q2 : w1.cell? ⟨b, off + i * 3 + 2, none⟩ = some (.slice A1 x.pattern.args.length c1) := (HB.out.cell (p := ⟨b, off + (i * 3 + 2), none⟩) hbl).trans Q2.out
      replace hbr : b < w1.heap.size := Nat.lt_of_lt_of_le hbl HB.out.size
      go_wp2_with fail
      refine (ZLZ A1 _ c1 x.pattern.args L1 _ _ rfl (by omega) (by omega) (S1.out.keep (Qu HB.out lL1.out))).mono ?_
      rintro e w2 ⟨rfl, hb2⟩
      have HB := Lib.hid (HB.out.trans (hb2.mono HB.out.size))
      clear hb2
      clear q0 q1 q2
      have q0 : w2.cell? ⟨b, off + i * 3, none⟩ = some (.int .i64 (kk)) := (HB.out.cell (p := ⟨b, off + (i * 3 + 0), none⟩) hbl).trans Q0.out
      have q1 : w2.cell? ⟨b, off + i * 3 + 1, none⟩ = some (.string (mTx (kk + 1))) := (HB.out.cell (p := ⟨b, off + (i * 3 + 1), none⟩) hbl).trans Q1.out
      have q2 : w2.cell? ⟨b, off + i * 3 + 2, none⟩ = some (.slice A1 x.pattern.args.length c1) := (HB.out.cell (p := ⟨b, off + (i * 3 + 2), none⟩) hbl).trans Q2.out
      replace hbr : b < w2.heap.size := Nat.lt_of_lt_of_le hbl HB.out.size
      have ge2 : ¬ (Qs (kk + 1 + 1) x.pattern.args < 0) := by omega
      go_wp2_with fail
      go_roundw
      case rel => exact ⟨i + 1, ZLu kk x, by omega, by go_num, rfl, by unfold ZLu; omega, HDn, HB⟩
      case measure => simp [intOf]; omega
    · obtain rfl : i = n := by omega
      have hf : Hid (ZLn k ds = kk) := by
        obtain ⟨h1, _⟩ := HD.out
        rw [Hid, ← h1, List.drop_of_length_le (by have := HN.out; omega)]; rfl
      go_wp2
      go_ret
      exact ⟨ZL2 hf.out.symm, HB.out⟩

set_option maxRecDepth 100000 in
set_option maxHeartbeats 4000000 in
theorem ZNw (A : Option Addr) (n c : Nat) (ds : List Zf) (L : List Nat) (k : Int) (w : World) (hn : n = ds.length) (hm : n ≤ 9223372036854775807) (hk0 : 1 ≤ k) (hk1 : ZLc k ds ≤ 4611686018427387904) (h : Sli Zby w A (ZLy k ds) L) :
    Calls Tryz.prog 42 #[.slice A n c, .int .i64 k] w fun e w' => e = .returned (.int .i64 (ZLc k ds)) ∧ Below w.heap.size w w' := by
  have H := Lib.hid h
  have HN := Lib.hid hn
  have HK := Lib.hid hk1
  clear h hn hk1
  go_enter Tryz.func42, Tryz.ntmps42
  go_wp2
  go_loopw [1, 5] (fun q j wr => ∃ (i : Nat) (kk : Int), i ≤ n ∧ j = .int .i64 i ∧ q = .int .i64 kk ∧ 1 ≤ kk ∧ Hid (ZLc kk (ds.drop i) = ZLc k ds ∧ (ZLy k ds).drop i = ZLy kk (ds.drop i)) ∧ Hid (Below w.heap.size w wr)) (fun _ j _ => n - (intOf j).toNat)
  case atStart => exact ⟨0, k, Nat.zero_le _, rfl, rfl, hk0, ⟨rfl, rfl⟩, Below.refl _ _⟩
  case round =>
    obtain ⟨i, kk, hi, rfl, rfl, h1, HD, HB⟩ := hrel
    by_cases hlt : i < n
    · have hil : i < ds.length := by have := HN.out; omega
      obtain ⟨hkk, hdr⟩ := HD.out
      have hml : i < (ZLy k ds).length := by rw [ZMw]; exact hil
      obtain ⟨b, off, cs, Lk, rfl, hbL, hLk, hrep, hc⟩ := H.out.at_ hml
      rw [List.drop_eq_getElem_cons hml, List.drop_eq_getElem_cons hil, ZLy] at hdr
      injection hdr with e1 e2
      rw [e1] at hrep
      clear e1
      have hnext : ds.drop i = ds[i] :: ds.drop (i + 1) := List.drop_eq_getElem_cons _
      rw [hnext] at hkk
      clear hnext
      generalize ds[i] = x at hrep hkk e2
      have hnb : Hid (ZLP kk x ≤ 4611686018427387904) := by
        have := ZMa (ZLP kk x) (ds.drop (i + 1))
        have hk := HK.out
        rw [← hkk] at hk
        exact Int.le_trans this hk
      have hnb1 := hnb.out
      have hnb2 := ZNe kk x
      unfold ZLP at hnb1 hnb2
      have HDn : Hid (ZLc (ZLP kk x) (ds.drop (i + 1)) = ZLc k ds ∧ (ZLy k ds).drop (i + 1) = ZLy (ZLP kk x) (ds.drop (i + 1))) := ⟨hkk, e2⟩
      have hbl : b < w.heap.size := H.out.lt b hbL
      clear hkk e2
      obtain ⟨A1, c1, L1, A2, c2, L2, rfl, hLL, t0, n1, m1, s1, n2, m2, s2⟩ := hrep
      have S1 := Lib.hid s1
      have lL1 : Hid (∀ y ∈ L1, y < w.heap.size) := fun y m => H.out.lt y (hLk y (by rw [hLL]; simp [m]))
      have ll1 : (ZM5 kk x).cond.length = x.cond.length := ZNm _ _
      clear s1
      have S2 := Lib.hid s2
      have lL2 : Hid (∀ y ∈ L2, y < w.heap.size) := fun y m => H.out.lt y (hLk y (by rw [hLL]; simp [m]))
      have ll2 : (ZM5 kk x).thn.length = x.thn.length := ZMM _ _
      clear s2
      have Q0 := Lib.hid (hc 0 _ rfl)
      have Q1 := Lib.hid (hc 1 _ rfl)
      have Q2 := Lib.hid (hc 2 _ rfl)
      have Q3 := Lib.hid (hc 3 _ rfl)
      unfold maxLen at m1 m2
      rw [ll1] at Q2 n1
      rw [ll2] at Q3 n2
      clear hc ll1 ll2
      have i0 : (0 : Int) ≤ i := by omega
      have i1 : (i : Int) < n := by omega
      have mono_x_cond := ZMt (kk + 1 + 1) x.cond
      have mono_x_thn := ZMf (ZLo (kk + 1 + 1) x.cond) x.thn
      have q0 : wr.cell? ⟨b, off + i * 4, none⟩ = some (.string (mTx (kk))) := (HB.out.cell (p := ⟨b, off + (i * 4 + 0), none⟩) hbl).trans Q0.out
      have q1 : wr.cell? ⟨b, off + i * 4 + 1, none⟩ = some (.int .i64 (kk + 1)) := (HB.out.cell (p := ⟨b, off + (i * 4 + 1), none⟩) hbl).trans Q1.out
      have q2 : wr.cell? ⟨b, off + i * 4 + 2, none⟩ = some (.slice A1 x.cond.length c1) := (HB.out.cell (p := ⟨b, off + (i * 4 + 2), none⟩) hbl).trans Q2.out
      have q3 : wr.cell? ⟨b, off + i * 4 + 3, none⟩ = some (.slice A2 x.thn.length c2) := (HB.out.cell (p := ⟨b, off + (i * 4 + 3), none⟩) hbl).trans Q3.out
      have hbr : b < wr.heap.size := Nat.lt_of_lt_of_le hbl HB.out.size
      go_wp2_with fail
      go_region_held3 (fun w' => w'.cell? ⟨b, off + i * 4, none⟩ = some (.string (mTx (kk)))) (first | go_keep | exact (hb1.cell (p := ⟨b, off + i * 4, none⟩) hbr).trans q0) (first | (go_at_call 71; refine (ZLf _ _ (by omega) (by omega)).mono ?_; rintro e w1 ⟨rfl, hb1⟩))
      have HB := Lib.hid (HB.out.trans (ZLm hb1 HB.out.size))
      clear hb1
      clear q0 q1 q2 q3
      have q0 : w1.cell? ⟨b, off + i * 4, none⟩ = some (.string (mTx (kk))) := (HB.out.cell (p := ⟨b, off + (i * 4 + 0), none⟩) hbl).trans Q0.out
      have q1 : w1.cell? ⟨b, off + i * 4 + 1, none⟩ = some (.int .i64 (kk + 1)) := (HB.out.cell (p := ⟨b, off + (i * 4 + 1), none⟩) hbl).trans Q1.out
      have q2 : w1.cell? ⟨b, off + i * 4 + 2, none⟩ = some (.slice A1 x.cond.length c1) := (HB.out.cell (p := ⟨b, off + (i * 4 + 2), none⟩) hbl).trans Q2.out
      have q3 : w1.cell? ⟨b, off + i * 4 + 3, none⟩ = some (.slice A2 x.thn.length c2) := (HB.out.cell (p := ⟨b, off + (i * 4 + 3), none⟩) hbl).trans Q3.out
      replace hbr : b < w1.heap.size := Nat.lt_of_lt_of_le hbl HB.out.size
      go_wp2_with fail
      refine (ZOR A1 _ c1 x.cond L1 _ _ rfl (by omega) (by omega) (by omega) (S1.out.keep (Qu HB.out lL1.out))).mono ?_
      rintro e w2 ⟨rfl, hb2⟩
      have HB := Lib.hid (HB.out.trans (hb2.mono HB.out.size))
      clear hb2
      clear q0 q1 q2 q3
      have q0 : w2.cell? ⟨b, off + i * 4, none⟩ = some (.string (mTx (kk))) := (HB.out.cell (p := ⟨b, off + (i * 4 + 0), none⟩) hbl).trans Q0.out
      have q1 : w2.cell? ⟨b, off + i * 4 + 1, none⟩ = some (.int .i64 (kk + 1)) := (HB.out.cell (p := ⟨b, off + (i * 4 + 1), none⟩) hbl).trans Q1.out
      have q2 : w2.cell? ⟨b, off + i * 4 + 2, none⟩ = some (.slice A1 x.cond.length c1) := (HB.out.cell (p := ⟨b, off + (i * 4 + 2), none⟩) hbl).trans Q2.out
      have q3 : w2.cell? ⟨b, off + i * 4 + 3, none⟩ = some (.slice A2 x.thn.length c2) := (HB.out.cell (p := ⟨b, off + (i * 4 + 3), none⟩) hbl).trans Q3.out
      replace hbr : b < w2.heap.size := Nat.lt_of_lt_of_le hbl HB.out.size
      have ge2 : ¬ (ZLo (kk + 1 + 1) x.cond < 0) := by omega
      go_wp2_with fail
      refine (ZOg A2 _ c2 x.thn L2 _ _ rfl (by omega) (by omega) (by omega) (S2.out.keep (Qu HB.out lL2.out))).mono ?_
      rintro e w3 ⟨rfl, hb3⟩
      have HB := Lib.hid (HB.out.trans (hb3.mono HB.out.size))
      clear hb3
      clear q0 q1 q2 q3
      have q0 : w3.cell? ⟨b, off + i * 4, none⟩ = some (.string (mTx (kk))) := (HB.out.cell (p := ⟨b, off + (i * 4 + 0), none⟩) hbl).trans Q0.out
      have q1 : w3.cell? ⟨b, off + i * 4 + 1, none⟩ = some (.int .i64 (kk + 1)) := (HB.out.cell (p := ⟨b, off + (i * 4 + 1), none⟩) hbl).trans Q1.out
      have q2 : w3.cell? ⟨b, off + i * 4 + 2, none⟩ = some (.slice A1 x.cond.length c1) := (HB.out.cell (p := ⟨b, off + (i * 4 + 2), none⟩) hbl).trans Q2.out
      have q3 : w3.cell? ⟨b, off + i * 4 + 3, none⟩ = some (.slice A2 x.thn.length c2) := (HB.out.cell (p := ⟨b, off + (i * 4 + 3), none⟩) hbl).trans Q3.out
      replace hbr : b < w3.heap.size := Nat.lt_of_lt_of_le hbl HB.out.size
      have ge3 : ¬ (ZLn (ZLo (kk + 1 + 1) x.cond) x.thn < 0) := by omega
      go_wp2_with fail
      go_roundw
      case rel => exact ⟨i + 1, ZLP kk x, by omega, by go_num, rfl, by unfold ZLP; omega, HDn, HB⟩
      case measure => simp [intOf]; omega
    · obtain rfl : i = n := by omega
      have hf : Hid (ZLc k ds = kk) := by
        obtain ⟨h1, _⟩ := HD.out
        rw [Hid, ← h1, List.drop_of_length_le (by have := HN.out; omega)]; rfl
      go_wp2
      go_ret
      exact ⟨ZL2 hf.out.symm, HB.out⟩

set_option maxRecDepth 100000 in
set_option maxHeartbeats 4000000 in
theorem ZOD (A : Option Addr) (n c : Nat) (ds : List Zw) (L : List Nat) (k : Int) (w : World) (hn : n = ds.length) (hm : n ≤ 9223372036854775807) (hk0 : 1 ≤ k) (hk1 : ZLr k ds ≤ 4611686018427387904) (h : Sli ZlR w A (ZLU k ds) L) :
    Calls Tryz.prog 79 #[.slice A n c, .int .i64 k] w fun e w' => e = .returned (.int .i64 (ZLr k ds)) ∧ Below w.heap.size w w' := by
  have H := Lib.hid h
  have HN := Lib.hid hn
  have HK := Lib.hid hk1
  clear h hn hk1
  go_enter Tryz.func79, Tryz.ntmps79
  go_wp2
  go_loopw [1, 5] (fun q j wr => ∃ (i : Nat) (kk : Int), i ≤ n ∧ j = .int .i64 i ∧ q = .int .i64 kk ∧ 1 ≤ kk ∧ Hid (ZLr kk (ds.drop i) = ZLr k ds ∧ (ZLU k ds).drop i = ZLU kk (ds.drop i)) ∧ Hid (Below w.heap.size w wr)) (fun _ j _ => n - (intOf j).toNat)
  case atStart => exact ⟨0, k, Nat.zero_le _, rfl, rfl, hk0, ⟨rfl, rfl⟩, Below.refl _ _⟩
  case round =>
    obtain ⟨i, kk, hi, rfl, rfl, h1, HD, HB⟩ := hrel
    by_cases hlt : i < n
    · have hil : i < ds.length := by have := HN.out; omega
      obtain ⟨hkk, hdr⟩ := HD.out
      have hml : i < (ZLU k ds).length := by rw [ZMW]; exact hil
      obtain ⟨b, off, cs, Lk, rfl, hbL, hLk, hrep, hc⟩ := H.out.at_ hml
      rw [List.drop_eq_getElem_cons hml, List.drop_eq_getElem_cons hil, ZLU] at hdr
      injection hdr with e1 e2
      rw [e1] at hrep
      clear e1
      have hnext : ds.drop i = ds[i] :: ds.drop (i + 1) := List.drop_eq_getElem_cons _
      rw [hnext] at hkk
      clear hnext
      generalize ds[i] = x at hrep hkk e2
      have hnb : Hid (ZLA kk x ≤ 4611686018427387904) := by
        have := ZMo (ZLA kk x) (ds.drop (i + 1))
        have hk := HK.out
        rw [← hkk] at hk
        exact Int.le_trans this hk
      have hnb1 := hnb.out
      have hnb2 := ZM1 kk x
      unfold ZLA at hnb1 hnb2
      have HDn : Hid (ZLr (ZLA kk x) (ds.drop (i + 1)) = ZLr k ds ∧ (ZLU k ds).drop (i + 1) = ZLU (ZLA kk x) (ds.drop (i + 1))) := ⟨hkk, e2⟩
      have hbl : b < w.heap.size := H.out.lt b hbL
      clear hkk e2
      obtain ⟨A1, c1, L1, A2, c2, L2, rfl, hLL, n1, m1, s1, n2, m2, s2⟩ := hrep
      have S1 := Lib.hid s1
      have lL1 : Hid (∀ y ∈ L1, y < w.heap.size) := fun y m => H.out.lt y (hLk y (by rw [hLL]; simp [m]))
      have ll1 : (ZMD kk x).facts.length = x.facts.length := ZMd _ _
      clear s1
      have S2 := Lib.hid s2
      have lL2 : Hid (∀ y ∈ L2, y < w.heap.size) := fun y m => H.out.lt y (hLk y (by rw [hLL]; simp [m]))
      have ll2 : (ZMD kk x).binding.length = x.binding.length := ZM9 _ _
      clear s2
      have Q0 := Lib.hid (hc 0 _ rfl)
      have Q1 := Lib.hid (hc 1 _ rfl)
      unfold maxLen at m1 m2
      rw [ll1] at Q0 n1
      rw [ll2] at Q1 n2
      clear hc ll1 ll2
      have i0 : (0 : Int) ≤ i := by omega
      have i1 : (i : Int) < n := by omega
      have mono_x_facts := ZLT (kk) x.facts
      have mono_x_binding := ZMr (ZLl (kk) x.facts) x.binding
      have q0 : wr.cell? ⟨b, off + i * 2, none⟩ = some (.slice A1 x.facts.length c1) := (HB.out.cell (p := ⟨b, off + (i * 2 + 0), none⟩) hbl).trans Q0.out
      have q1 : wr.cell? ⟨b, off + i * 2 + 1, none⟩ = some (.slice A2 x.binding.length c2) := (HB.out.cell (p := ⟨b, off + (i * 2 + 1), none⟩) hbl).trans Q1.out
      have hbr : b < wr.heap.size := Nat.lt_of_lt_of_le hbl HB.out.size
      go_wp2_with fail
      refine (ZMQ A1 _ c1 x.facts L1 _ _ rfl (by omega) (by omega) (by omega) (S1.out.keep (Qu HB.out lL1.out))).mono ?_
      rintro e w1 ⟨rfl, hb1⟩
      have HB := Lib.hid (HB.out.trans (hb1.mono HB.out.size))
      clear hb1
      clear q0 q1
      have q0 : w1.cell? ⟨b, off + i * 2, none⟩ = some (.slice A1 x.facts.length c1) := (HB.out.cell (p := ⟨b, off + (i * 2 + 0), none⟩) hbl).trans Q0.out
      have q1 : w1.cell? ⟨b, off + i * 2 + 1, none⟩ = some (.slice A2 x.binding.length c2) := (HB.out.cell (p := ⟨b, off + (i * 2 + 1), none⟩) hbl).trans Q1.out
      replace hbr : b < w1.heap.size := Nat.lt_of_lt_of_le hbl HB.out.size
      have ge1 : ¬ (ZLl (kk) x.facts < 0) := by omega
      go_wp2_with fail
      refine (ZOL A2 _ c2 x.binding L2 _ _ rfl (by omega) (by omega) (by omega) (S2.out.keep (Qu HB.out lL2.out))).mono ?_
      rintro e w2 ⟨rfl, hb2⟩
      have HB := Lib.hid (HB.out.trans (hb2.mono HB.out.size))
      clear hb2
      clear q0 q1
      have q0 : w2.cell? ⟨b, off + i * 2, none⟩ = some (.slice A1 x.facts.length c1) := (HB.out.cell (p := ⟨b, off + (i * 2 + 0), none⟩) hbl).trans Q0.out
      have q1 : w2.cell? ⟨b, off + i * 2 + 1, none⟩ = some (.slice A2 x.binding.length c2) := (HB.out.cell (p := ⟨b, off + (i * 2 + 1), none⟩) hbl).trans Q1.out
      replace hbr : b < w2.heap.size := Nat.lt_of_lt_of_le hbl HB.out.size
      have ge2 : ¬ (ZLE (ZLl (kk) x.facts) x.binding < 0) := by omega
      go_wp2_with fail
      go_roundw
      case rel => exact ⟨i + 1, ZLA kk x, by omega, by go_num, rfl, by unfold ZLA; omega, HDn, HB⟩
      case measure => simp [intOf]; omega
    · obtain rfl : i = n := by omega
      have hf : Hid (ZLr k ds = kk) := by
        obtain ⟨h1, _⟩ := HD.out
        rw [Hid, ← h1, List.drop_of_length_le (by have := HN.out; omega)]; rfl
      go_wp2
      go_ret
      exact ⟨ZL2 hf.out.symm, HB.out⟩

set_option maxRecDepth 100000 in
set_option maxHeartbeats 4000000 in
theorem ZOB (A : Option Addr) (n c : Nat) (ds : List ZL4) (L : List Nat) (k : Int) (w : World) (hn : n = ds.length) (hm : n ≤ 9223372036854775807) (hk0 : 1 ≤ k) (hk1 : ZLe k ds ≤ 4611686018427387904) (h : Sli ZL7 w A (ZLI k ds) L) :
    Calls Tryz.prog 47 #[.slice A n c, .int .i64 k] w fun e w' => e = .returned (.int .i64 (ZLe k ds)) ∧ Below w.heap.size w w' := by
  have H := Lib.hid h
  have HN := Lib.hid hn
  have HK := Lib.hid hk1
  clear h hn hk1
  go_enter Tryz.func47, Tryz.ntmps47
  go_wp2
  go_loopw [1, 5] (fun q j wr => ∃ (i : Nat) (kk : Int), i ≤ n ∧ j = .int .i64 i ∧ q = .int .i64 kk ∧ 1 ≤ kk ∧ Hid (ZLe kk (ds.drop i) = ZLe k ds ∧ (ZLI k ds).drop i = ZLI kk (ds.drop i)) ∧ Hid (Below w.heap.size w wr)) (fun _ j _ => n - (intOf j).toNat)
  case atStart => exact ⟨0, k, Nat.zero_le _, rfl, rfl, hk0, ⟨rfl, rfl⟩, Below.refl _ _⟩
  case round =>
    obtain ⟨i, kk, hi, rfl, rfl, h1, HD, HB⟩ := hrel
    by_cases hlt : i < n
    · have hil : i < ds.length := by have := HN.out; omega
      obtain ⟨hkk, hdr⟩ := HD.out
      have hml : i < (ZLI k ds).length := by rw [ZME]; exact hil
      obtain ⟨b, off, cs, Lk, rfl, hbL, hLk, hrep, hc⟩ := H.out.at_ hml
      rw [List.drop_eq_getElem_cons hml, List.drop_eq_getElem_cons hil, ZLI] at hdr
      injection hdr with e1 e2
      rw [e1] at hrep
      clear e1
      have hnext : ds.drop i = ds[i] :: ds.drop (i + 1) := List.drop_eq_getElem_cons _
      rw [hnext] at hkk
      clear hnext
      generalize ds[i] = x at hrep hkk e2
      have hnb : Hid (ZLz kk x ≤ 4611686018427387904) := by
        have := ZMm (ZLz kk x) (ds.drop (i + 1))
        have hk := HK.out
        rw [← hkk] at hk
        exact Int.le_trans this hk
      have hnb1 := hnb.out
      have hnb2 := ZM0 kk x
      unfold ZLz at hnb1 hnb2
      have HDn : Hid (ZLe (ZLz kk x) (ds.drop (i + 1)) = ZLe k ds ∧ (ZLI k ds).drop (i + 1) = ZLI (ZLz kk x) (ds.drop (i + 1))) := ⟨hkk, e2⟩
      have hbl : b < w.heap.size := H.out.lt b hbL
      clear hkk e2
      obtain ⟨A1, c1, L1, A2, c2, L2, rfl, hLL, t0, n1, m1, s1, n2, m2, s2⟩ := hrep
      have S1 := Lib.hid s1
      have lL1 : Hid (∀ y ∈ L1, y < w.heap.size) := fun y m => H.out.lt y (hLk y (by rw [hLL]; simp [m]))
      have ll1 : (ZMF kk x).shape.args.length = x.shape.args.length := ZLt _ _
      clear s1
      have S2 := Lib.hid s2
      have lL2 : Hid (∀ y ∈ L2, y < w.heap.size) := fun y m => H.out.lt y (hLk y (by rw [hLL]; simp [m]))
      have ll2 : (ZMF kk x).facts.length = x.facts.length := ZMd _ _
      clear s2
      have Q0 := Lib.hid (hc 0 _ rfl)
      have Q1 := Lib.hid (hc 1 _ rfl)
      have Q2 := Lib.hid (hc 2 _ rfl)
      unfold maxLen at m1 m2
      rw [ll1] at Q1 n1
      rw [ll2] at Q2 n2
      clear hc ll1 ll2
      have i0 : (0 : Int) ≤ i := by omega
      have i1 : (i : Int) < n := by omega
      have mono_x_shape_args := ZLj (kk + 1) x.shape.args
      have mono_x_facts := ZLT (Qs (kk + 1) x.shape.args) x.facts
      have q0 : wr.cell? ⟨b, off + i * 3, none⟩ = some (.string (mTx (kk))) := (HB.out.cell (p := ⟨b, off + (i * 3 + 0), none⟩) hbl).trans Q0.out
      have q1 : wr.cell? ⟨b, off + i * 3 + 1, none⟩ = some (.slice A1 x.shape.args.length c1) := (HB.out.cell (p := ⟨b, off + (i * 3 + 1), none⟩) hbl).trans Q1.out
      have q2 : wr.cell? ⟨b, off + i * 3 + 2, none⟩ = some (.slice A2 x.facts.length c2) := (HB.out.cell (p := ⟨b, off + (i * 3 + 2), none⟩) hbl).trans Q2.out
      have hbr : b < wr.heap.size := Nat.lt_of_lt_of_le hbl HB.out.size
      go_wp2_with fail
      go_region_held3 (fun w' => w'.cell? ⟨b, off + i * 3, none⟩ = some (.string (mTx (kk)))) (first | go_keep | exact (hb1.cell (p := ⟨b, off + i * 3, none⟩) hbr).trans q0) (first | (go_at_call 71; refine (ZLf _ _ (by omega) (by omega)).mono ?_; rintro e w1 ⟨rfl, hb1⟩))
      have HB := Lib.hid (HB.out.trans (ZLm hb1 HB.out.size))
      clear hb1
      clear q0 q1 q2
      have q0 : w1.cell? ⟨b, off + i * 3, none⟩ = some (.string (mTx (kk))) := (HB.out.cell (p := ⟨b, off + (i * 3 + 0), none⟩) hbl).trans Q0.out
      have q1 : w1.cell? ⟨b, off + i * 3 + 1, none⟩ = some (.slice A1 x.shape.args.length c1) := (HB.out.cell (p := ⟨b, off + (i * 3 + 1), none⟩) hbl).trans Q1.out
      have q2 : w1.cell? ⟨b, off + i * 3 + 2, none⟩ = some (.slice A2 x.facts.length c2) := (HB.out.cell (p := ⟨b, off + (i * 3 + 2), none⟩) hbl).trans Q2.out
      replace hbr : b < w1.heap.size := Nat.lt_of_lt_of_le hbl HB.out.size
      go_wp2_with fail
      refine (ZLZ A1 _ c1 x.shape.args L1 _ _ rfl (by omega) (by omega) (S1.out.keep (Qu HB.out lL1.out))).mono ?_
      rintro e w2 ⟨rfl, hb2⟩
      have HB := Lib.hid (HB.out.trans (hb2.mono HB.out.size))
      clear hb2
      clear q0 q1 q2
      have q0 : w2.cell? ⟨b, off + i * 3, none⟩ = some (.string (mTx (kk))) := (HB.out.cell (p := ⟨b, off + (i * 3 + 0), none⟩) hbl).trans Q0.out
      have q1 : w2.cell? ⟨b, off + i * 3 + 1, none⟩ = some (.slice A1 x.shape.args.length c1) := (HB.out.cell (p := ⟨b, off + (i * 3 + 1), none⟩) hbl).trans Q1.out
      have q2 : w2.cell? ⟨b, off + i * 3 + 2, none⟩ = some (.slice A2 x.facts.length c2) := (HB.out.cell (p := ⟨b, off + (i * 3 + 2), none⟩) hbl).trans Q2.out
      replace hbr : b < w2.heap.size := Nat.lt_of_lt_of_le hbl HB.out.size
      have ge2 : ¬ (Qs (kk + 1) x.shape.args < 0) := by omega
      go_wp2_with fail
      refine (ZMQ A2 _ c2 x.facts L2 _ _ rfl (by omega) (by omega) (by omega) (S2.out.keep (Qu HB.out lL2.out))).mono ?_
      rintro e w3 ⟨rfl, hb3⟩
      have HB := Lib.hid (HB.out.trans (hb3.mono HB.out.size))
      clear hb3
      clear q0 q1 q2
      have q0 : w3.cell? ⟨b, off + i * 3, none⟩ = some (.string (mTx (kk))) := (HB.out.cell (p := ⟨b, off + (i * 3 + 0), none⟩) hbl).trans Q0.out
      have q1 : w3.cell? ⟨b, off + i * 3 + 1, none⟩ = some (.slice A1 x.shape.args.length c1) := (HB.out.cell (p := ⟨b, off + (i * 3 + 1), none⟩) hbl).trans Q1.out
      have q2 : w3.cell? ⟨b, off + i * 3 + 2, none⟩ = some (.slice A2 x.facts.length c2) := (HB.out.cell (p := ⟨b, off + (i * 3 + 2), none⟩) hbl).trans Q2.out
      replace hbr : b < w3.heap.size := Nat.lt_of_lt_of_le hbl HB.out.size
      have ge3 : ¬ (ZLl (Qs (kk + 1) x.shape.args) x.facts < 0) := by omega
      go_wp2_with fail
      go_roundw
      case rel => exact ⟨i + 1, ZLz kk x, by omega, by go_num, rfl, by unfold ZLz; omega, HDn, HB⟩
      case measure => simp [intOf]; omega
    · obtain rfl : i = n := by omega
      have hf : Hid (ZLe k ds = kk) := by
        obtain ⟨h1, _⟩ := HD.out
        rw [Hid, ← h1, List.drop_of_length_le (by have := HN.out; omega)]; rfl
      go_wp2
      go_ret
      exact ⟨ZL2 hf.out.symm, HB.out⟩

set_option maxRecDepth 100000 in
set_option maxHeartbeats 4000000 in
theorem ZOK (A : Option Addr) (n c : Nat) (ds : List ZMe) (L : List Nat) (k : Int) (w : World) (hn : n = ds.length) (hm : n ≤ 9223372036854775807) (hk0 : 1 ≤ k) (hk1 : ZLk k ds ≤ 4611686018427387904) (h : Sli ZMg w A (ZLR k ds) L) :
    Calls Tryz.prog 48 #[.slice A n c, .int .i64 k] w fun e w' => e = .returned (.int .i64 (ZLk k ds)) ∧ Below w.heap.size w w' := by
  have H := Lib.hid h
  have HN := Lib.hid hn
  have HK := Lib.hid hk1
  clear h hn hk1
  go_enter Tryz.func48, Tryz.ntmps48
  go_wp2
  go_loopw [1, 5] (fun q j wr => ∃ (i : Nat) (kk : Int), i ≤ n ∧ j = .int .i64 i ∧ q = .int .i64 kk ∧ 1 ≤ kk ∧ Hid (ZLk kk (ds.drop i) = ZLk k ds ∧ (ZLR k ds).drop i = ZLR kk (ds.drop i)) ∧ Hid (Below w.heap.size w wr)) (fun _ j _ => n - (intOf j).toNat)
  case atStart => exact ⟨0, k, Nat.zero_le _, rfl, rfl, hk0, ⟨rfl, rfl⟩, Below.refl _ _⟩
  case round =>
    obtain ⟨i, kk, hi, rfl, rfl, h1, HD, HB⟩ := hrel
    by_cases hlt : i < n
    · have hil : i < ds.length := by have := HN.out; omega
      obtain ⟨hkk, hdr⟩ := HD.out
      have hml : i < (ZLR k ds).length := by rw [ZMH]; exact hil
      obtain ⟨b, off, cs, Lk, rfl, hbL, hLk, hrep, hc⟩ := H.out.at_ hml
      rw [List.drop_eq_getElem_cons hml, List.drop_eq_getElem_cons hil, ZLR] at hdr
      injection hdr with e1 e2
      rw [e1] at hrep
      clear e1
      have hnext : ds.drop i = ds[i] :: ds.drop (i + 1) := List.drop_eq_getElem_cons _
      rw [hnext] at hkk
      clear hnext
      generalize ds[i] = x at hrep hkk e2
      have hnb : Hid (ZLM kk x ≤ 4611686018427387904) := by
        have := ZMs (ZLM kk x) (ds.drop (i + 1))
        have hk := HK.out
        rw [← hkk] at hk
        exact Int.le_trans this hk
      have hnb1 := hnb.out
      have hnb2 := ZNi kk x
      unfold ZLM at hnb1 hnb2
      have HDn : Hid (ZLk (ZLM kk x) (ds.drop (i + 1)) = ZLk k ds ∧ (ZLR k ds).drop (i + 1) = ZLR (ZLM kk x) (ds.drop (i + 1))) := ⟨hkk, e2⟩
      have hbl : b < w.heap.size := H.out.lt b hbL
      clear hkk e2
      obtain ⟨A1, c1, L1, A2, c2, L2, rfl, hLL, t0, t1, t2, n1, m1, s1, n2, m2, s2⟩ := hrep
      have S1 := Lib.hid s1
      have lL1 : Hid (∀ y ∈ L1, y < w.heap.size) := fun y m => H.out.lt y (hLk y (by rw [hLL]; simp [m]))
      have ll1 : (ZMZ kk x).cond.pattern.args.length = x.cond.pattern.args.length := ZLt _ _
      clear s1
      have S2 := Lib.hid s2
      have lL2 : Hid (∀ y ∈ L2, y < w.heap.size) := fun y m => H.out.lt y (hLk y (by rw [hLL]; simp [m]))
      have ll2 : (ZMZ kk x).tokens.length = x.tokens.length := ZMW _ _
      clear s2
      have Q0 := Lib.hid (hc 0 _ rfl)
      have Q1 := Lib.hid (hc 1 _ rfl)
      have Q2 := Lib.hid (hc 2 _ rfl)
      have Q3 := Lib.hid (hc 3 _ rfl)
      have Q4 := Lib.hid (hc 4 _ rfl)
      have Q5 := Lib.hid (hc 5 _ rfl)
      have Q6 := Lib.hid (hc 6 _ rfl)
      have Q7 := Lib.hid (hc 7 _ rfl)
      unfold maxLen at m1 m2
      rw [ll1] at Q3 n1
      rw [ll2] at Q7 n2
      clear hc ll1 ll2
      have i0 : (0 : Int) ≤ i := by omega
      have i1 : (i : Int) < n := by omega
      have mono_x_cond_pattern_args := ZLj (kk + 1 + 1 + 1) x.cond.pattern.args
      have mono_x_tokens := ZMo (Qs (kk + 1 + 1 + 1) x.cond.pattern.args + 1 + 1 + 1) x.tokens
      have q0 : wr.cell? ⟨b, off + i * 8, none⟩ = some (.int .i64 (kk)) := (HB.out.cell (p := ⟨b, off + (i * 8 + 0), none⟩) hbl).trans Q0.out
      have q1 : wr.cell? ⟨b, off + i * 8 + 1, none⟩ = some (.int .i64 (kk + 1)) := (HB.out.cell (p := ⟨b, off + (i * 8 + 1), none⟩) hbl).trans Q1.out
      have q2 : wr.cell? ⟨b, off + i * 8 + 2, none⟩ = some (.string (mTx (kk + 1 + 1))) := (HB.out.cell (p := ⟨b, off + (i * 8 + 2), none⟩) hbl).trans Q2.out
      have q3 : wr.cell? ⟨b, off + i * 8 + 3, none⟩ = some (.slice A1 x.cond.pattern.args.length c1) := (HB.out.cell (p := ⟨b, off + (i * 8 + 3), none⟩) hbl).trans Q3.out
      have q4 : wr.cell? ⟨b, off + i * 8 + 4, none⟩ = some (.string (mTx (Qs (kk + 1 + 1 + 1) x.cond.pattern.args))) := (HB.out.cell (p := ⟨b, off + (i * 8 + 4), none⟩) hbl).trans Q4.out
      have q5 : wr.cell? ⟨b, off + i * 8 + 5, none⟩ = some (.string (mTx (Qs (kk + 1 + 1 + 1) x.cond.pattern.args + 1))) := (HB.out.cell (p := ⟨b, off + (i * 8 + 5), none⟩) hbl).trans Q5.out
      have q6 : wr.cell? ⟨b, off + i * 8 + 6, none⟩ = some (.int .i64 (Qs (kk + 1 + 1 + 1) x.cond.pattern.args + 1 + 1)) := (HB.out.cell (p := ⟨b, off + (i * 8 + 6), none⟩) hbl).trans Q6.out
      have q7 : wr.cell? ⟨b, off + i * 8 + 7, none⟩ = some (.slice A2 x.tokens.length c2) := (HB.out.cell (p := ⟨b, off + (i * 8 + 7), none⟩) hbl).trans Q7.out
      have hbr : b < wr.heap.size := Nat.lt_of_lt_of_le hbl HB.out.size
      go_wp2_with fail
      go_region_held3 (fun w' => w'.cell? ⟨b, off + i * 8 + 2, none⟩ = some (.string (mTx (kk + 1 + 1)))) (first | go_keep | exact (hb1.cell (p := ⟨b, off + i * 8 + 2, none⟩) hbr).trans q2) (first | (go_at_call 71; refine (ZLf _ _ (by omega) (by omega)).mono ?_; rintro e w1 ⟨rfl, hb1⟩))
      have HB := Lib.hid (HB.out.trans (ZLm hb1 HB.out.size))
      clear hb1
      clear q0 q1 q2 q3 q4 q5 q6 q7
      have q0 : w1.cell? ⟨b, off + i * 8, none⟩ = some (.int .i64 (kk)) := (HB.out.cell (p := ⟨b, off + (i * 8 + 0), none⟩) hbl).trans Q0.out
      have q1 : w1.cell? ⟨b, off + i * 8 + 1, none⟩ = some (.int .i64 (kk + 1)) := (HB.out.cell (p := ⟨b, off + (i * 8 + 1), none⟩) hbl).trans Q1.out
      have q2 : w1.cell? ⟨b, off + i * 8 + 2, none⟩ = some (.string (mTx (kk + 1 + 1))) := (HB.out.cell (p := ⟨b, off + (i * 8 + 2), none⟩) hbl).trans Q2.out
      have q3 : w1.cell? ⟨b, off + i * 8 + 3, none⟩ = some (.slice A1 x.cond.pattern.args.length c1) := (HB.out.cell (p := ⟨b, off + (i * 8 + 3), none⟩) hbl).trans Q3.out
      have q4 : w1.cell? ⟨b, off + i * 8 + 4, none⟩ = some (.string (mTx (Qs (kk + 1 + 1 + 1) x.cond.pattern.args))) := (HB.out.cell (p := ⟨b, off + (i * 8 + 4), none⟩) hbl).trans Q4.out
      have q5 : w1.cell? ⟨b, off + i * 8 + 5, none⟩ = some (.string (mTx (Qs (kk + 1 + 1 + 1) x.cond.pattern.args + 1))) := (HB.out.cell (p := ⟨b, off + (i * 8 + 5), none⟩) hbl).trans Q5.out
      have q6 : w1.cell? ⟨b, off + i * 8 + 6, none⟩ = some (.int .i64 (Qs (kk + 1 + 1 + 1) x.cond.pattern.args + 1 + 1)) := (HB.out.cell (p := ⟨b, off + (i * 8 + 6), none⟩) hbl).trans Q6.out
      have q7 : w1.cell? ⟨b, off + i * 8 + 7, none⟩ = some (.slice A2 x.tokens.length c2) := (HB.out.cell (p := ⟨b, off + (i * 8 + 7), none⟩) hbl).trans Q7.out
      replace hbr : b < w1.heap.size := Nat.lt_of_lt_of_le hbl HB.out.size
      go_wp2_with fail
      refine (ZLZ A1 _ c1 x.cond.pattern.args L1 _ _ rfl (by omega) (by omega) (S1.out.keep (Qu HB.out lL1.out))).mono ?_
      rintro e w2 ⟨rfl, hb2⟩
      have HB := Lib.hid (HB.out.trans (hb2.mono HB.out.size))
      clear hb2
      clear q0 q1 q2 q3 q4 q5 q6 q7
      have q0 : w2.cell? ⟨b, off + i * 8, none⟩ = some (.int .i64 (kk)) := (HB.out.cell (p := ⟨b, off + (i * 8 + 0), none⟩) hbl).trans Q0.out
      have q1 : w2.cell? ⟨b, off + i * 8 + 1, none⟩ = some (.int .i64 (kk + 1)) := (HB.out.cell (p := ⟨b, off + (i * 8 + 1), none⟩) hbl).trans Q1.out
      have q2 : w2.cell? ⟨b, off + i * 8 + 2, none⟩ = some (.string (mTx (kk + 1 + 1))) := (HB.out.cell (p := ⟨b, off + (i * 8 + 2), none⟩) hbl).trans Q2.out
      have q3 : w2.cell? ⟨b, off + i * 8 + 3, none⟩ = some (.slice A1 x.cond.pattern.args.length c1) := (HB.out.cell (p := ⟨b, off + (i * 8 + 3), none⟩) hbl).trans Q3.out
      have q4 : w2.cell? ⟨b, off + i * 8 + 4, none⟩ = some (.string (mTx (Qs (kk + 1 + 1 + 1) x.cond.pattern.args))) := (HB.out.cell (p := ⟨b, off + (i * 8 + 4), none⟩) hbl).trans Q4.out
      have q5 : w2.cell? ⟨b, off + i * 8 + 5, none⟩ = some (.string (mTx (Qs (kk + 1 + 1 + 1) x.cond.pattern.args + 1))) := (HB.out.cell (p := ⟨b, off + (i * 8 + 5), none⟩) hbl).trans Q5.out
      have q6 : w2.cell? ⟨b, off + i * 8 + 6, none⟩ = some (.int .i64 (Qs (kk + 1 + 1 + 1) x.cond.pattern.args + 1 + 1)) := (HB.out.cell (p := ⟨b, off + (i * 8 + 6), none⟩) hbl).trans Q6.out
      have q7 : w2.cell? ⟨b, off + i * 8 + 7, none⟩ = some (.slice A2 x.tokens.length c2) := (HB.out.cell (p := ⟨b, off + (i * 8 + 7), none⟩) hbl).trans Q7.out
      replace hbr : b < w2.heap.size := Nat.lt_of_lt_of_le hbl HB.out.size
      have ge2 : ¬ (Qs (kk + 1 + 1 + 1) x.cond.pattern.args < 0) := by omega
      go_wp2_with fail
      go_region_held3 (fun w' => w'.cell? ⟨b, off + i * 8 + 4, none⟩ = some (.string (mTx (Qs (kk + 1 + 1 + 1) x.cond.pattern.args)))) (first | go_keep | exact (hb3.cell (p := ⟨b, off + i * 8 + 4, none⟩) hbr).trans q4) (first | (go_at_call 71; refine (ZLf _ _ (by omega) (by omega)).mono ?_; rintro e w3 ⟨rfl, hb3⟩))
      have HB := Lib.hid (HB.out.trans (ZLm hb3 HB.out.size))
      clear hb3
      clear q0 q1 q2 q3 q4 q5 q6 q7
      have q0 : w3.cell? ⟨b, off + i * 8, none⟩ = some (.int .i64 (kk)) := (HB.out.cell (p := ⟨b, off + (i * 8 + 0), none⟩) hbl).trans Q0.out
      have q1 : w3.cell? ⟨b, off + i * 8 + 1, none⟩ = some (.int .i64 (kk + 1)) := (HB.out.cell (p := ⟨b, off + (i * 8 + 1), none⟩) hbl).trans Q1.out
      have q2 : w3.cell? ⟨b, off + i * 8 + 2, none⟩ = some (.string (mTx (kk + 1 + 1))) := (HB.out.cell (p := ⟨b, off + (i * 8 + 2), none⟩) hbl).trans Q2.out
      have q3 : w3.cell? ⟨b, off + i * 8 + 3, none⟩ = some (.slice A1 x.cond.pattern.args.length c1) := (HB.out.cell (p := ⟨b, off + (i * 8 + 3), none⟩) hbl).trans Q3.out
      have q4 : w3.cell? ⟨b, off + i * 8 + 4, none⟩ = some (.string (mTx (Qs (kk + 1 + 1 + 1) x.cond.pattern.args))) := (HB.out.cell (p := ⟨b, off + (i * 8 + 4), none⟩) hbl).trans Q4.out
      have q5 : w3.cell? ⟨b, off + i * 8 + 5, none⟩ = some (.string (mTx (Qs (kk + 1 + 1 + 1) x.cond.pattern.args + 1))) := (HB.out.cell (p := ⟨b, off + (i * 8 + 5), none⟩) hbl).trans Q5.out
      have q6 : w3.cell? ⟨b, off + i * 8 + 6, none⟩ = some (.int .i64 (Qs (kk + 1 + 1 + 1) x.cond.pattern.args + 1 + 1)) := (HB.out.cell (p := ⟨b, off + (i * 8 + 6), none⟩) hbl).trans Q6.out
      have q7 : w3.cell? ⟨b, off + i * 8 + 7, none⟩ = some (.slice A2 x.tokens.length c2) := (HB.out.cell (p := ⟨b, off + (i * 8 + 7), none⟩) hbl).trans Q7.out
      replace hbr : b < w3.heap.size := Nat.lt_of_lt_of_le hbl HB.out.size
      go_wp2_with fail
      go_region_held3 (fun w' => w'.cell? ⟨b, off + i * 8 + 5, none⟩ = some (.string (mTx (Qs (kk + 1 + 1 + 1) x.cond.pattern.args + 1)))) (first | go_keep | exact (hb4.cell (p := ⟨b, off + i * 8 + 5, none⟩) hbr).trans q5) (first | (go_at_call 71; refine (ZLf _ _ (by omega) (by omega)).mono ?_; rintro e w4 ⟨rfl, hb4⟩))
      have HB := Lib.hid (HB.out.trans (ZLm hb4 HB.out.size))
      clear hb4
      clear q0 q1 q2 q3 q4 q5 q6 q7
      have q0 : w4.cell? ⟨b, off + i * 8, none⟩ = some (.int .i64 (kk)) := (HB.out.cell (p := ⟨b, off + (i * 8 + 0), none⟩) hbl).trans Q0.out
      have q1 : w4.cell? ⟨b, off + i * 8 + 1, none⟩ = some (.int .i64 (kk + 1)) := (HB.out.cell (p := ⟨b, off + (i * 8 + 1), none⟩) hbl).trans Q1.out
      have q2 : w4.cell? ⟨b, off + i * 8 + 2, none⟩ = some (.string (mTx (kk + 1 + 1))) := (HB.out.cell (p := ⟨b, off + (i * 8 + 2), none⟩) hbl).trans Q2.out
      have q3 : w4.cell? ⟨b, off + i * 8 + 3, none⟩ = some (.slice A1 x.cond.pattern.args.length c1) := (HB.out.cell (p := ⟨b, off + (i * 8 + 3), none⟩) hbl).trans Q3.out
      have q4 : w4.cell? ⟨b, off + i * 8 + 4, none⟩ = some (.string (mTx (Qs (kk + 1 + 1 + 1) x.cond.pattern.args))) := (HB.out.cell (p := ⟨b, off + (i * 8 + 4), none⟩) hbl).trans Q4.out
      have q5 : w4.cell? ⟨b, off + i * 8 + 5, none⟩ = some (.string (mTx (Qs (kk + 1 + 1 + 1) x.cond.pattern.args + 1))) := (HB.out.cell (p := ⟨b, off + (i * 8 + 5), none⟩) hbl).trans Q5.out
      have q6 : w4.cell? ⟨b, off + i * 8 + 6, none⟩ = some (.int .i64 (Qs (kk + 1 + 1 + 1) x.cond.pattern.args + 1 + 1)) := (HB.out.cell (p := ⟨b, off + (i * 8 + 6), none⟩) hbl).trans Q6.out
      have q7 : w4.cell? ⟨b, off + i * 8 + 7, none⟩ = some (.slice A2 x.tokens.length c2) := (HB.out.cell (p := ⟨b, off + (i * 8 + 7), none⟩) hbl).trans Q7.out
      replace hbr : b < w4.heap.size := Nat.lt_of_lt_of_le hbl HB.out.size
      go_wp2_with fail
      refine (ZOD A2 _ c2 x.tokens L2 _ _ rfl (by omega) (by omega) (by omega) (S2.out.keep (Qu HB.out lL2.out))).mono ?_
      rintro e w5 ⟨rfl, hb5⟩
      have HB := Lib.hid (HB.out.trans (hb5.mono HB.out.size))
      clear hb5
      clear q0 q1 q2 q3 q4 q5 q6 q7
      have q0 : w5.cell? ⟨b, off + i * 8, none⟩ = some (.int .i64 (kk)) := (HB.out.cell (p := ⟨b, off + (i * 8 + 0), none⟩) hbl).trans Q0.out
      have q1 : w5.cell? ⟨b, off + i * 8 + 1, none⟩ = some (.int .i64 (kk + 1)) := (HB.out.cell (p := ⟨b, off + (i * 8 + 1), none⟩) hbl).trans Q1.out
      have q2 : w5.cell? ⟨b, off + i * 8 + 2, none⟩ = some (.string (mTx (kk + 1 + 1))) := (HB.out.cell (p := ⟨b, off + (i * 8 + 2), none⟩) hbl).trans Q2.out
      have q3 : w5.cell? ⟨b, off + i * 8 + 3, none⟩ = some (.slice A1 x.cond.pattern.args.length c1) := (HB.out.cell (p := ⟨b, off + (i * 8 + 3), none⟩) hbl).trans Q3.out
      have q4 : w5.cell? ⟨b, off + i * 8 + 4, none⟩ = some (.string (mTx (Qs (kk + 1 + 1 + 1) x.cond.pattern.args))) := (HB.out.cell (p := ⟨b, off + (i * 8 + 4), none⟩) hbl).trans Q4.out
      have q5 : w5.cell? ⟨b, off + i * 8 + 5, none⟩ = some (.string (mTx (Qs (kk + 1 + 1 + 1) x.cond.pattern.args + 1))) := (HB.out.cell (p := ⟨b, off + (i * 8 + 5), none⟩) hbl).trans Q5.out
      have q6 : w5.cell? ⟨b, off + i * 8 + 6, none⟩ = some (.int .i64 (Qs (kk + 1 + 1 + 1) x.cond.pattern.args + 1 + 1)) := (HB.out.cell (p := ⟨b, off + (i * 8 + 6), none⟩) hbl).trans Q6.out
      have q7 : w5.cell? ⟨b, off + i * 8 + 7, none⟩ = some (.slice A2 x.tokens.length c2) := (HB.out.cell (p := ⟨b, off + (i * 8 + 7), none⟩) hbl).trans Q7.out
      replace hbr : b < w5.heap.size := Nat.lt_of_lt_of_le hbl HB.out.size
      have ge5 : ¬ (ZLr (Qs (kk + 1 + 1 + 1) x.cond.pattern.args + 1 + 1 + 1) x.tokens < 0) := by omega
      go_wp2_with fail
      go_roundw
      case rel => exact ⟨i + 1, ZLM kk x, by omega, by go_num, rfl, by unfold ZLM; omega, HDn, HB⟩
      case measure => simp [intOf]; omega
    · obtain rfl : i = n := by omega
      have hf : Hid (ZLk k ds = kk) := by
        obtain ⟨h1, _⟩ := HD.out
        rw [Hid, ← h1, List.drop_of_length_le (by have := HN.out; omega)]; rfl
      go_wp2
      go_ret
      exact ⟨ZL2 hf.out.symm, HB.out⟩

set_option maxHeartbeats 1600000 in
theorem ZOr (x : ZMb) (A1 : Option Addr) (c1 : Nat) (L1 : List Nat) (A2 : Option Addr) (c2 : Nat) (L2 : List Nat) (A3 : Option Addr) (c3 : Nat) (L3 : List Nat) (A4 : Option Addr) (c4 : Nat) (L4 : List Nat) (A5 : Option Addr) (c5 : Nat) (L5 : List Nat) (k : Int) (w : World) (hk0 : 1 ≤ k) (hk1 : ZLQ k x ≤ 4611686018427387904) (l1 : x.rules.length ≤ 9223372036854775807) (l2 : x.ends.length ≤ 9223372036854775807) (l3 : x.alphas.length ≤ 9223372036854775807) (l4 : x.nodes.length ≤ 9223372036854775807) (l5 : x.facts.length ≤ 9223372036854775807) (s1 : Sli Zby w A1 (ZLy (k) x.rules) L1) (s2 : Sli Zj7 w A2 (ZLY (ZLc (k) x.rules) x.ends) L2) (s3 : Sli ZL7 w A3 (ZLI (ZLg (ZLc (k) x.rules) x.ends) x.alphas) L3) (s4 : Sli ZMg w A4 (ZLR (ZLe (ZLg (ZLc (k) x.rules) x.ends) x.alphas) x.nodes) L4) (s5 : Sli Yf w A5 (ZLK (ZLk (ZLe (ZLg (ZLc (k) x.rules) x.ends) x.alphas) x.nodes) x.facts) L5) :
    Calls Tryz.prog 18 #[.agg #[.slice A1 x.rules.length c1, .slice A2 x.ends.length c2, .slice A3 x.alphas.length c3, .slice A4 x.nodes.length c4, .slice A5 x.facts.length c5, .int .i64 x.tries], .int .i64 k] w fun e w' => e = .returned (.int .i64 (ZLQ k x)) ∧ Below w.heap.size w w' := by
  have B0 : Hid (Below w.heap.size w (w.alloc (.cells #[.slice A1 x.rules.length c1, .slice A2 x.ends.length c2, .slice A3 x.alphas.length c3, .slice A4 x.nodes.length c4, .slice A5 x.facts.length c5, .int .i64 x.tries] 33))) := (Below.refl _ _).alloc (Nat.le_refl _) _
  have S1 := Lib.hid s1
  have S2 := Lib.hid s2
  have S3 := Lib.hid s3
  have S4 := Lib.hid s4
  have S5 := Lib.hid s5
  have K0 : Hid (Blk (w.alloc (.cells #[.slice A1 x.rules.length c1, .slice A2 x.ends.length c2, .slice A3 x.alphas.length c3, .slice A4 x.nodes.length c4, .slice A5 x.facts.length c5, .int .i64 x.tries] 33)) w.heap.size 33 #[.slice A1 x.rules.length c1, .slice A2 x.ends.length c2, .slice A3 x.alphas.length c3, .slice A4 x.nodes.length c4, .slice A5 x.facts.length c5, .int .i64 x.tries]) := Blk.new _ _ _
  clear s1 s2 s3 s4 s5
  unfold ZLQ at hk1
  have := ZMa (k) x.rules
  have := ZMp (ZLc (k) x.rules) x.ends
  have := ZMm (ZLg (ZLc (k) x.rules) x.ends) x.alphas
  have := ZMs (ZLe (ZLg (ZLc (k) x.rules) x.ends) x.alphas) x.nodes
  have := ZLT (ZLk (ZLe (ZLg (ZLc (k) x.rules) x.ends) x.alphas) x.nodes) x.facts
  go_enter Tryz.func18, Tryz.ntmps18
  go_wp2_with fail
  refine (ZNw A1 _ c1 x.rules L1 _ _ rfl (by omega) (by omega) (by omega) (S1.out.below B0.out)).mono ?_
  rintro e w1 ⟨rfl, hb1⟩
  have K1 := Lib.hid (K0.out.later hb1)
  have B1 := Lib.hid (B0.out.trans (hb1.mono B0.out.size))
  have f0 := K1.out.at (i := 0) rfl
  have f1 := K1.out.at (i := 1) rfl
  have f2 := K1.out.at (i := 2) rfl
  have f3 := K1.out.at (i := 3) rfl
  have f4 := K1.out.at (i := 4) rfl
  have f5 := K1.out.at (i := 5) rfl
  have ge1 : ¬ (ZLc (k) x.rules < 0) := by omega
  clear hb1
  go_wp2_with fail
  refine (ZNM A2 _ c2 x.ends L2 _ _ rfl (by omega) (by omega) (S2.out.below B1.out)).mono ?_
  rintro e w2 ⟨rfl, hb2⟩
  have K2 := Lib.hid (K1.out.later hb2)
  have B2 := Lib.hid (B1.out.trans (hb2.mono B1.out.size))
  clear f0 f1 f2 f3 f4 f5
  have f0 := K2.out.at (i := 0) rfl
  have f1 := K2.out.at (i := 1) rfl
  have f2 := K2.out.at (i := 2) rfl
  have f3 := K2.out.at (i := 3) rfl
  have f4 := K2.out.at (i := 4) rfl
  have f5 := K2.out.at (i := 5) rfl
  have ge2 : ¬ (ZLg (ZLc (k) x.rules) x.ends < 0) := by omega
  clear hb2
  go_wp2_with fail
  refine (ZOB A3 _ c3 x.alphas L3 _ _ rfl (by omega) (by omega) (by omega) (S3.out.below B2.out)).mono ?_
  rintro e w3 ⟨rfl, hb3⟩
  have K3 := Lib.hid (K2.out.later hb3)
  have B3 := Lib.hid (B2.out.trans (hb3.mono B2.out.size))
  clear f0 f1 f2 f3 f4 f5
  have f0 := K3.out.at (i := 0) rfl
  have f1 := K3.out.at (i := 1) rfl
  have f2 := K3.out.at (i := 2) rfl
  have f3 := K3.out.at (i := 3) rfl
  have f4 := K3.out.at (i := 4) rfl
  have f5 := K3.out.at (i := 5) rfl
  have ge3 : ¬ (ZLe (ZLg (ZLc (k) x.rules) x.ends) x.alphas < 0) := by omega
  clear hb3
  go_wp2_with fail
  refine (ZOK A4 _ c4 x.nodes L4 _ _ rfl (by omega) (by omega) (by omega) (S4.out.below B3.out)).mono ?_
  rintro e w4 ⟨rfl, hb4⟩
  have K4 := Lib.hid (K3.out.later hb4)
  have B4 := Lib.hid (B3.out.trans (hb4.mono B3.out.size))
  clear f0 f1 f2 f3 f4 f5
  have f0 := K4.out.at (i := 0) rfl
  have f1 := K4.out.at (i := 1) rfl
  have f2 := K4.out.at (i := 2) rfl
  have f3 := K4.out.at (i := 3) rfl
  have f4 := K4.out.at (i := 4) rfl
  have f5 := K4.out.at (i := 5) rfl
  have ge4 : ¬ (ZLk (ZLe (ZLg (ZLc (k) x.rules) x.ends) x.alphas) x.nodes < 0) := by omega
  clear hb4
  go_wp2_with fail
  refine (ZMQ A5 _ c5 x.facts L5 _ _ rfl (by omega) (by omega) (by omega) (S5.out.below B4.out)).mono ?_
  rintro e w5 ⟨rfl, hb5⟩
  have K5 := Lib.hid (K4.out.later hb5)
  have B5 := Lib.hid (B4.out.trans (hb5.mono B4.out.size))
  clear f0 f1 f2 f3 f4 f5
  have f0 := K5.out.at (i := 0) rfl
  have f1 := K5.out.at (i := 1) rfl
  have f2 := K5.out.at (i := 2) rfl
  have f3 := K5.out.at (i := 3) rfl
  have f4 := K5.out.at (i := 4) rfl
  have f5 := K5.out.at (i := 5) rfl
  have ge5 : ¬ (ZLl (ZLk (ZLe (ZLg (ZLc (k) x.rules) x.ends) x.alphas) x.nodes) x.facts < 0) := by omega
  clear hb5
  go_wp2_with fail
  go_ret
  exact ⟨ZL2 rfl, B5.out⟩
set_option maxRecDepth 100000 in
set_option maxHeartbeats 4000000 in
theorem ZOo (A : Option Addr) (n c : Nat) (ds : List ZL5) (L : List Nat) (k : Int) (w : World) (hn : n = ds.length) (hm : n ≤ 9223372036854775807) (hk0 : 1 ≤ k) (hk1 : ZLd k ds ≤ 4611686018427387904) (h : Sli ZL8 w A (ZLH k ds) L) :
    Calls Tryz.prog 43 #[.slice A n c, .int .i64 k] w fun e w' => e = .returned (.int .i64 (ZLd k ds)) ∧ Below w.heap.size w w' := by
  have H := Lib.hid h
  have HN := Lib.hid hn
  have HK := Lib.hid hk1
  clear h hn hk1
  go_enter Tryz.func43, Tryz.ntmps43
  go_wp2
  go_loopw [1, 5] (fun q j wr => ∃ (i : Nat) (kk : Int), i ≤ n ∧ j = .int .i64 i ∧ q = .int .i64 kk ∧ 1 ≤ kk ∧ Hid (ZLd kk (ds.drop i) = ZLd k ds ∧ (ZLH k ds).drop i = ZLH kk (ds.drop i)) ∧ Hid (Below w.heap.size w wr)) (fun _ j _ => n - (intOf j).toNat)
  case atStart => exact ⟨0, k, Nat.zero_le _, rfl, rfl, hk0, ⟨rfl, rfl⟩, Below.refl _ _⟩
  case round =>
    obtain ⟨i, kk, hi, rfl, rfl, h1, HD, HB⟩ := hrel
    by_cases hlt : i < n
    · have hil : i < ds.length := by have := HN.out; omega
      obtain ⟨hkk, hdr⟩ := HD.out
      have hml : i < (ZLH k ds).length := by rw [ZMB]; exact hil
      obtain ⟨b, off, cs, Lk, rfl, hbL, hLk, hrep, hc⟩ := H.out.at_ hml
      rw [List.drop_eq_getElem_cons hml, List.drop_eq_getElem_cons hil, ZLH] at hdr
      injection hdr with e1 e2
      rw [e1] at hrep
      clear e1
      have hnext : ds.drop i = ds[i] :: ds.drop (i + 1) := List.drop_eq_getElem_cons _
      rw [hnext] at hkk
      clear hnext
      generalize ds[i] = x at hrep hkk e2
      have hnb : Hid (ZLB kk x ≤ 4611686018427387904) := by
        have := ZMl (ZLB kk x) (ds.drop (i + 1))
        have hk := HK.out
        rw [← hkk] at hk
        exact Int.le_trans this hk
      have hnb1 := hnb.out
      have hnb2 := ZM3 kk x
      unfold ZLB at hnb1 hnb2
      have HDn : Hid (ZLd (ZLB kk x) (ds.drop (i + 1)) = ZLd k ds ∧ (ZLH k ds).drop (i + 1) = ZLH (ZLB kk x) (ds.drop (i + 1))) := ⟨hkk, e2⟩
      have hbl : b < w.heap.size := H.out.lt b hbL
      clear hkk e2
      obtain ⟨A1, c1, L1, rfl, hLL, t0, n1, m1, s1⟩ := hrep
      have S1 := Lib.hid s1
      have lL1 : Hid (∀ y ∈ L1, y < w.heap.size) := fun y m => H.out.lt y (hLk y (by rw [hLL]; simp [m]))
      have ll1 : (ZML kk x).fact.args.length = x.fact.args.length := ZLt _ _
      clear s1
      have Q0 := Lib.hid (hc 0 _ rfl)
      have Q1 := Lib.hid (hc 1 _ rfl)
      have Q2 := Lib.hid (hc 2 _ rfl)
      unfold maxLen at m1
      rw [ll1] at Q1 n1
      clear hc ll1
      have i0 : (0 : Int) ≤ i := by omega
      have i1 : (i : Int) < n := by omega
      have mono_x_fact_args := ZLj (kk + 1) x.fact.args
      have q0 : wr.cell? ⟨b, off + i * 3, none⟩ = some (.string (mTx (kk))) := (HB.out.cell (p := ⟨b, off + (i * 3 + 0), none⟩) hbl).trans Q0.out
      have q1 : wr.cell? ⟨b, off + i * 3 + 1, none⟩ = some (.slice A1 x.fact.args.length c1) := (HB.out.cell (p := ⟨b, off + (i * 3 + 1), none⟩) hbl).trans Q1.out
      have q2 : wr.cell? ⟨b, off + i * 3 + 2, none⟩ = some (.int .i64 (Qs (kk + 1) x.fact.args)) := (HB.out.cell (p := ⟨b, off + (i * 3 + 2), none⟩) hbl).trans Q2.out
      have hbr : b < wr.heap.size := Nat.lt_of_lt_of_le hbl HB.out.size
      go_wp2_with fail
      go_region_held3 (fun w' => w'.cell? ⟨b, off + i * 3, none⟩ = some (.string (mTx (kk)))) (first | go_keep | exact (hb1.cell (p := ⟨b, off + i * 3, none⟩) hbr).trans q0) (first | (go_at_call 71; refine (ZLf _ _ (by omega) (by omega)).mono ?_; rintro e w1 ⟨rfl, hb1⟩))
      have HB := Lib.hid (HB.out.trans (ZLm hb1 HB.out.size))
      clear hb1
      clear q0 q1 q2
      have q0 : w1.cell? ⟨b, off + i * 3, none⟩ = some (.string (mTx (kk))) := (HB.out.cell (p := ⟨b, off + (i * 3 + 0), none⟩) hbl).trans Q0.out
      have q1 : w1.cell? ⟨b, off + i * 3 + 1, none⟩ = some (.slice A1 x.fact.args.length c1) := (HB.out.cell (p := ⟨b, off + (i * 3 + 1), none⟩) hbl).trans Q1.out
      have q2 : w1.cell? ⟨b, off + i * 3 + 2, none⟩ = some (.int .i64 (Qs (kk + 1) x.fact.args)) := (HB.out.cell (p := ⟨b, off + (i * 3 + 2), none⟩) hbl).trans Q2.out
      replace hbr : b < w1.heap.size := Nat.lt_of_lt_of_le hbl HB.out.size
      go_wp2_with fail
      refine (ZLZ A1 _ c1 x.fact.args L1 _ _ rfl (by omega) (by omega) (S1.out.keep (Qu HB.out lL1.out))).mono ?_
      rintro e w2 ⟨rfl, hb2⟩
      have HB := Lib.hid (HB.out.trans (hb2.mono HB.out.size))
      clear hb2
      clear q0 q1 q2
      have q0 : w2.cell? ⟨b, off + i * 3, none⟩ = some (.string (mTx (kk))) := (HB.out.cell (p := ⟨b, off + (i * 3 + 0), none⟩) hbl).trans Q0.out
      have q1 : w2.cell? ⟨b, off + i * 3 + 1, none⟩ = some (.slice A1 x.fact.args.length c1) := (HB.out.cell (p := ⟨b, off + (i * 3 + 1), none⟩) hbl).trans Q1.out
      have q2 : w2.cell? ⟨b, off + i * 3 + 2, none⟩ = some (.int .i64 (Qs (kk + 1) x.fact.args)) := (HB.out.cell (p := ⟨b, off + (i * 3 + 2), none⟩) hbl).trans Q2.out
      replace hbr : b < w2.heap.size := Nat.lt_of_lt_of_le hbl HB.out.size
      have ge2 : ¬ (Qs (kk + 1) x.fact.args < 0) := by omega
      go_wp2_with fail
      go_roundw
      case rel => exact ⟨i + 1, ZLB kk x, by omega, by go_num, rfl, by unfold ZLB; omega, HDn, HB⟩
      case measure => simp [intOf]; omega
    · obtain rfl : i = n := by omega
      have hf : Hid (ZLd k ds = kk) := by
        obtain ⟨h1, _⟩ := HD.out
        rw [Hid, ← h1, List.drop_of_length_le (by have := HN.out; omega)]; rfl
      go_wp2
      go_ret
      exact ⟨ZL2 hf.out.symm, HB.out⟩

set_option maxRecDepth 100000 in
set_option maxHeartbeats 4000000 in
theorem ZOf (A : Option Addr) (n c : Nat) (ds : List ZLS) (L : List Nat) (k : Int) (w : World) (hn : n = ds.length) (hm : n ≤ 9223372036854775807) (hk0 : 1 ≤ k) (hk1 : ZLi k ds ≤ 4611686018427387904) (h : Sli ZLV w A (ZLw k ds) L) :
    Calls Tryz.prog 44 #[.slice A n c, .int .i64 k] w fun e w' => e = .returned (.int .i64 (ZLi k ds)) ∧ Below w.heap.size w w' := by
  have H := Lib.hid h
  have HN := Lib.hid hn
  have HK := Lib.hid hk1
  clear h hn hk1
  go_enter Tryz.func44, Tryz.ntmps44
  go_wp2
  go_loopw [1, 5] (fun q j wr => ∃ (i : Nat) (kk : Int), i ≤ n ∧ j = .int .i64 i ∧ q = .int .i64 kk ∧ 1 ≤ kk ∧ Hid (ZLi kk (ds.drop i) = ZLi k ds ∧ (ZLw k ds).drop i = ZLw kk (ds.drop i)) ∧ Hid (Below w.heap.size w wr)) (fun _ j _ => n - (intOf j).toNat)
  case atStart => exact ⟨0, k, Nat.zero_le _, rfl, rfl, hk0, ⟨rfl, rfl⟩, Below.refl _ _⟩
  case round =>
    obtain ⟨i, kk, hi, rfl, rfl, h1, HD, HB⟩ := hrel
    by_cases hlt : i < n
    · have hil : i < ds.length := by have := HN.out; omega
      obtain ⟨hkk, hdr⟩ := HD.out
      have hml : i < (ZLw k ds).length := by rw [ZMv]; exact hil
      obtain ⟨b, off, cs, Lk, rfl, hbL, hLk, hrep, hc⟩ := H.out.at_ hml
      rw [List.drop_eq_getElem_cons hml, List.drop_eq_getElem_cons hil, ZLw] at hdr
      injection hdr with e1 e2
      rw [e1] at hrep
      clear e1
      have hnext : ds.drop i = ds[i] :: ds.drop (i + 1) := List.drop_eq_getElem_cons _
      rw [hnext] at hkk
      clear hnext
      generalize ds[i] = x at hrep hkk e2
      have hnb : Hid (ZLs kk x ≤ 4611686018427387904) := by
        have := ZMi (ZLs kk x) (ds.drop (i + 1))
        have hk := HK.out
        rw [← hkk] at hk
        exact Int.le_trans this hk
      have hnb1 := hnb.out
      have hnb2 := ZMS kk x
      unfold ZLs at hnb1 hnb2
      have HDn : Hid (ZLi (ZLs kk x) (ds.drop (i + 1)) = ZLi k ds ∧ (ZLw k ds).drop (i + 1) = ZLw (ZLs kk x) (ds.drop (i + 1))) := ⟨hkk, e2⟩
      have hbl : b < w.heap.size := H.out.lt b hbL
      clear hkk e2
      obtain ⟨A1, c1, L1, rfl, hLL, t0, n1, m1, s1⟩ := hrep
      have S1 := Lib.hid s1
      have lL1 : Hid (∀ y ∈ L1, y < w.heap.size) := fun y m => H.out.lt y (hLk y (by rw [hLL]; simp [m]))
      have ll1 : (ZMx kk x).times.length = x.times.length := ZMu _ _
      clear s1
      have Q0 := Lib.hid (hc 0 _ rfl)
      have Q1 := Lib.hid (hc 1 _ rfl)
      unfold maxLen at m1
      rw [ll1] at Q1 n1
      clear hc ll1
      have i0 : (0 : Int) ≤ i := by omega
      have i1 : (i : Int) < n := by omega
      have mono_x_times := ZMp (kk + 1) x.times
      have q0 : wr.cell? ⟨b, off + i * 2, none⟩ = some (.string (mTx (kk))) := (HB.out.cell (p := ⟨b, off + (i * 2 + 0), none⟩) hbl).trans Q0.out
      have q1 : wr.cell? ⟨b, off + i * 2 + 1, none⟩ = some (.slice A1 x.times.length c1) := (HB.out.cell (p := ⟨b, off + (i * 2 + 1), none⟩) hbl).trans Q1.out
      have hbr : b < wr.heap.size := Nat.lt_of_lt_of_le hbl HB.out.size
      go_wp2_with fail
      go_region_held3 (fun w' => w'.cell? ⟨b, off + i * 2, none⟩ = some (.string (mTx (kk)))) (first | go_keep | exact (hb1.cell (p := ⟨b, off + i * 2, none⟩) hbr).trans q0) (first | (go_at_call 71; refine (ZLf _ _ (by omega) (by omega)).mono ?_; rintro e w1 ⟨rfl, hb1⟩))
      have HB := Lib.hid (HB.out.trans (ZLm hb1 HB.out.size))
      clear hb1
      clear q0 q1
      have q0 : w1.cell? ⟨b, off + i * 2, none⟩ = some (.string (mTx (kk))) := (HB.out.cell (p := ⟨b, off + (i * 2 + 0), none⟩) hbl).trans Q0.out
      have q1 : w1.cell? ⟨b, off + i * 2 + 1, none⟩ = some (.slice A1 x.times.length c1) := (HB.out.cell (p := ⟨b, off + (i * 2 + 1), none⟩) hbl).trans Q1.out
      replace hbr : b < w1.heap.size := Nat.lt_of_lt_of_le hbl HB.out.size
      go_wp2_with fail
      refine (ZNM A1 _ c1 x.times L1 _ _ rfl (by omega) (by omega) (S1.out.keep (Qu HB.out lL1.out))).mono ?_
      rintro e w2 ⟨rfl, hb2⟩
      have HB := Lib.hid (HB.out.trans (hb2.mono HB.out.size))
      clear hb2
      clear q0 q1
      have q0 : w2.cell? ⟨b, off + i * 2, none⟩ = some (.string (mTx (kk))) := (HB.out.cell (p := ⟨b, off + (i * 2 + 0), none⟩) hbl).trans Q0.out
      have q1 : w2.cell? ⟨b, off + i * 2 + 1, none⟩ = some (.slice A1 x.times.length c1) := (HB.out.cell (p := ⟨b, off + (i * 2 + 1), none⟩) hbl).trans Q1.out
      replace hbr : b < w2.heap.size := Nat.lt_of_lt_of_le hbl HB.out.size
      have ge2 : ¬ (ZLg (kk + 1) x.times < 0) := by omega
      go_wp2_with fail
      go_roundw
      case rel => exact ⟨i + 1, ZLs kk x, by omega, by go_num, rfl, by unfold ZLs; omega, HDn, HB⟩
      case measure => simp [intOf]; omega
    · obtain rfl : i = n := by omega
      have hf : Hid (ZLi k ds = kk) := by
        obtain ⟨h1, _⟩ := HD.out
        rw [Hid, ← h1, List.drop_of_length_le (by have := HN.out; omega)]; rfl
      go_wp2
      go_ret
      exact ⟨ZL2 hf.out.symm, HB.out⟩

set_option maxRecDepth 100000 in
set_option maxHeartbeats 4000000 in
theorem ZOw (A : Option Addr) (n c : Nat) (ds : List ZL6) (L : List Nat) (k : Int) (w : World) (hn : n = ds.length) (hm : n ≤ 9223372036854775807) (hk0 : 1 ≤ k) (hk1 : ZLv k ds ≤ 4611686018427387904) (h : Sli ZL9 w A (ZLG k ds) L) :
    Calls Tryz.prog 45 #[.slice A n c, .int .i64 k] w fun e w' => e = .returned (.int .i64 (ZLv k ds)) ∧ Below w.heap.size w w' := by
  have H := Lib.hid h
  have HN := Lib.hid hn
  have HK := Lib.hid hk1
  clear h hn hk1
  go_enter Tryz.func45, Tryz.ntmps45
  go_wp2
  go_loopw [1, 5] (fun q j wr => ∃ (i : Nat) (kk : Int), i ≤ n ∧ j = .int .i64 i ∧ q = .int .i64 kk ∧ 1 ≤ kk ∧ Hid (ZLv kk (ds.drop i) = ZLv k ds ∧ (ZLG k ds).drop i = ZLG kk (ds.drop i)) ∧ Hid (Below w.heap.size w wr)) (fun _ j _ => n - (intOf j).toNat)
  case atStart => exact ⟨0, k, Nat.zero_le _, rfl, rfl, hk0, ⟨rfl, rfl⟩, Below.refl _ _⟩
  case round =>
    obtain ⟨i, kk, hi, rfl, rfl, h1, HD, HB⟩ := hrel
    by_cases hlt : i < n
    · have hil : i < ds.length := by have := HN.out; omega
      obtain ⟨hkk, hdr⟩ := HD.out
      have hml : i < (ZLG k ds).length := by rw [ZMC]; exact hil
      obtain ⟨b, off, cs, Lk, rfl, hbL, hLk, hrep, hc⟩ := H.out.at_ hml
      rw [List.drop_eq_getElem_cons hml, List.drop_eq_getElem_cons hil, ZLG] at hdr
      injection hdr with e1 e2
      rw [e1] at hrep
      clear e1
      have hnext : ds.drop i = ds[i] :: ds.drop (i + 1) := List.drop_eq_getElem_cons _
      rw [hnext] at hkk
      clear hnext
      generalize ds[i] = x at hrep hkk e2
      have hnb : Hid (ZLF kk x ≤ 4611686018427387904) := by
        have := ZMn (ZLF kk x) (ds.drop (i + 1))
        have hk := HK.out
        rw [← hkk] at hk
        exact Int.le_trans this hk
      have hnb1 := hnb.out
      have hnb2 := ZM2 kk x
      unfold ZLF at hnb1 hnb2
      have HDn : Hid (ZLv (ZLF kk x) (ds.drop (i + 1)) = ZLv k ds ∧ (ZLG k ds).drop (i + 1) = ZLG (ZLF kk x) (ds.drop (i + 1))) := ⟨hkk, e2⟩
      have hbl : b < w.heap.size := H.out.lt b hbL
      clear hkk e2
      obtain ⟨A1, c1, L1, rfl, hLL, t0, t1, n1, m1, s1⟩ := hrep
      have S1 := Lib.hid s1
      have lL1 : Hid (∀ y ∈ L1, y < w.heap.size) := fun y m => H.out.lt y (hLk y (by rw [hLL]; simp [m]))
      have ll1 : (ZMJ kk x).fact.args.length = x.fact.args.length := ZLt _ _
      clear s1
      have Q0 := Lib.hid (hc 0 _ rfl)
      have Q1 := Lib.hid (hc 1 _ rfl)
      have Q2 := Lib.hid (hc 2 _ rfl)
      have Q3 := Lib.hid (hc 3 _ rfl)
      unfold maxLen at m1
      rw [ll1] at Q3 n1
      clear hc ll1
      have i0 : (0 : Int) ≤ i := by omega
      have i1 : (i : Int) < n := by omega
      have mono_x_fact_args := ZLj (kk + 1 + 1 + 1) x.fact.args
      have q0 : wr.cell? ⟨b, off + i * 4, none⟩ = some (.int .i64 (kk)) := (HB.out.cell (p := ⟨b, off + (i * 4 + 0), none⟩) hbl).trans Q0.out
      have q1 : wr.cell? ⟨b, off + i * 4 + 1, none⟩ = some (.string (mTx (kk + 1))) := (HB.out.cell (p := ⟨b, off + (i * 4 + 1), none⟩) hbl).trans Q1.out
      have q2 : wr.cell? ⟨b, off + i * 4 + 2, none⟩ = some (.string (mTx (kk + 1 + 1))) := (HB.out.cell (p := ⟨b, off + (i * 4 + 2), none⟩) hbl).trans Q2.out
      have q3 : wr.cell? ⟨b, off + i * 4 + 3, none⟩ = some (.slice A1 x.fact.args.length c1) := (HB.out.cell (p := ⟨b, off + (i * 4 + 3), none⟩) hbl).trans Q3.out
      have hbr : b < wr.heap.size := Nat.lt_of_lt_of_le hbl HB.out.size
      go_wp2_with fail
      go_region_held3 (fun w' => w'.cell? ⟨b, off + i * 4 + 1, none⟩ = some (.string (mTx (kk + 1)))) (first | go_keep | exact (hb1.cell (p := ⟨b, off + i * 4 + 1, none⟩) hbr).trans q1) (first | (go_at_call 71; refine (ZLf _ _ (by omega) (by omega)).mono ?_; rintro e w1 ⟨rfl, hb1⟩))
      have HB := Lib.hid (HB.out.trans (ZLm hb1 HB.out.size))
      clear hb1
      clear q0 q1 q2 q3
      have q0 : w1.cell? ⟨b, off + i * 4, none⟩ = some (.int .i64 (kk)) := (HB.out.cell (p := ⟨b, off + (i * 4 + 0), none⟩) hbl).trans Q0.out
      have q1 : w1.cell? ⟨b, off + i * 4 + 1, none⟩ = some (.string (mTx (kk + 1))) := (HB.out.cell (p := ⟨b, off + (i * 4 + 1), none⟩) hbl).trans Q1.out
      have q2 : w1.cell? ⟨b, off + i * 4 + 2, none⟩ = some (.string (mTx (kk + 1 + 1))) := (HB.out.cell (p := ⟨b, off + (i * 4 + 2), none⟩) hbl).trans Q2.out
      have q3 : w1.cell? ⟨b, off + i * 4 + 3, none⟩ = some (.slice A1 x.fact.args.length c1) := (HB.out.cell (p := ⟨b, off + (i * 4 + 3), none⟩) hbl).trans Q3.out
      replace hbr : b < w1.heap.size := Nat.lt_of_lt_of_le hbl HB.out.size
      go_wp2_with fail
      go_region_held3 (fun w' => w'.cell? ⟨b, off + i * 4 + 2, none⟩ = some (.string (mTx (kk + 1 + 1)))) (first | go_keep | exact (hb2.cell (p := ⟨b, off + i * 4 + 2, none⟩) hbr).trans q2) (first | (go_at_call 71; refine (ZLf _ _ (by omega) (by omega)).mono ?_; rintro e w2 ⟨rfl, hb2⟩))
      have HB := Lib.hid (HB.out.trans (ZLm hb2 HB.out.size))
      clear hb2
      clear q0 q1 q2 q3
      have q0 : w2.cell? ⟨b, off + i * 4, none⟩ = some (.int .i64 (kk)) := (HB.out.cell (p := ⟨b, off + (i * 4 + 0), none⟩) hbl).trans Q0.out
      have q1 : w2.cell? ⟨b, off + i * 4 + 1, none⟩ = some (.string (mTx (kk + 1))) := (HB.out.cell (p := ⟨b, off + (i * 4 + 1), none⟩) hbl).trans Q1.out
      have q2 : w2.cell? ⟨b, off + i * 4 + 2, none⟩ = some (.string (mTx (kk + 1 + 1))) := (HB.out.cell (p := ⟨b, off + (i * 4 + 2), none⟩) hbl).trans Q2.out
      have q3 : w2.cell? ⟨b, off + i * 4 + 3, none⟩ = some (.slice A1 x.fact.args.length c1) := (HB.out.cell (p := ⟨b, off + (i * 4 + 3), none⟩) hbl).trans Q3.out
      replace hbr : b < w2.heap.size := Nat.lt_of_lt_of_le hbl HB.out.size
      go_wp2_with fail
      refine (ZLZ A1 _ c1 x.fact.args L1 _ _ rfl (by omega) (by omega) (S1.out.keep (Qu HB.out lL1.out))).mono ?_
      rintro e w3 ⟨rfl, hb3⟩
      have HB := Lib.hid (HB.out.trans (hb3.mono HB.out.size))
      clear hb3
      clear q0 q1 q2 q3
      have q0 : w3.cell? ⟨b, off + i * 4, none⟩ = some (.int .i64 (kk)) := (HB.out.cell (p := ⟨b, off + (i * 4 + 0), none⟩) hbl).trans Q0.out
      have q1 : w3.cell? ⟨b, off + i * 4 + 1, none⟩ = some (.string (mTx (kk + 1))) := (HB.out.cell (p := ⟨b, off + (i * 4 + 1), none⟩) hbl).trans Q1.out
      have q2 : w3.cell? ⟨b, off + i * 4 + 2, none⟩ = some (.string (mTx (kk + 1 + 1))) := (HB.out.cell (p := ⟨b, off + (i * 4 + 2), none⟩) hbl).trans Q2.out
      have q3 : w3.cell? ⟨b, off + i * 4 + 3, none⟩ = some (.slice A1 x.fact.args.length c1) := (HB.out.cell (p := ⟨b, off + (i * 4 + 3), none⟩) hbl).trans Q3.out
      replace hbr : b < w3.heap.size := Nat.lt_of_lt_of_le hbl HB.out.size
      have ge3 : ¬ (Qs (kk + 1 + 1 + 1) x.fact.args < 0) := by omega
      go_wp2_with fail
      go_roundw
      case rel => exact ⟨i + 1, ZLF kk x, by omega, by go_num, rfl, by unfold ZLF; omega, HDn, HB⟩
      case measure => simp [intOf]; omega
    · obtain rfl : i = n := by omega
      have hf : Hid (ZLv k ds = kk) := by
        obtain ⟨h1, _⟩ := HD.out
        rw [Hid, ← h1, List.drop_of_length_le (by have := HN.out; omega)]; rfl
      go_wp2
      go_ret
      exact ⟨ZL2 hf.out.symm, HB.out⟩

set_option maxHeartbeats 1600000 in
theorem ZOQ (x : ZMj) (A1 : Option Addr) (c1 : Nat) (L1 : List Nat) (A2 : Option Addr) (c2 : Nat) (L2 : List Nat) (A3 : Option Addr) (c3 : Nat) (L3 : List Nat) (A4 : Option Addr) (c4 : Nat) (L4 : List Nat) (k : Int) (w : World) (hk0 : 1 ≤ k) (hk1 : ZLh k x ≤ 4611686018427387904) (l1 : x.rules.length ≤ 9223372036854775807) (l2 : x.memory.length ≤ 9223372036854775807) (l3 : x.fired.length ≤ 9223372036854775807) (l4 : x.log.length ≤ 9223372036854775807) (s1 : Sli Zby w A1 (ZLy (k) x.rules) L1) (s2 : Sli ZL8 w A2 (ZLH (ZLc (k) x.rules) x.memory) L2) (s3 : Sli ZLV w A3 (ZLw (ZLd (ZLc (k) x.rules) x.memory) x.fired) L3) (s4 : Sli ZL9 w A4 (ZLG (ZLi (ZLd (ZLc (k) x.rules) x.memory) x.fired) x.log) L4) :
    Calls Tryz.prog 17 #[.agg #[.slice A1 x.rules.length c1, .slice A2 x.memory.length c2, .int .i64 x.clock, .slice A3 x.fired.length c3, .bool x.halted, .slice A4 x.log.length c4], .int .i64 k] w fun e w' => e = .returned (.int .i64 (ZLh k x)) ∧ Below w.heap.size w w' := by
  have B0 : Hid (Below w.heap.size w (w.alloc (.cells #[.slice A1 x.rules.length c1, .slice A2 x.memory.length c2, .int .i64 x.clock, .slice A3 x.fired.length c3, .bool x.halted, .slice A4 x.log.length c4] 27))) := (Below.refl _ _).alloc (Nat.le_refl _) _
  have S1 := Lib.hid s1
  have S2 := Lib.hid s2
  have S3 := Lib.hid s3
  have S4 := Lib.hid s4
  have K0 : Hid (Blk (w.alloc (.cells #[.slice A1 x.rules.length c1, .slice A2 x.memory.length c2, .int .i64 x.clock, .slice A3 x.fired.length c3, .bool x.halted, .slice A4 x.log.length c4] 27)) w.heap.size 27 #[.slice A1 x.rules.length c1, .slice A2 x.memory.length c2, .int .i64 x.clock, .slice A3 x.fired.length c3, .bool x.halted, .slice A4 x.log.length c4]) := Blk.new _ _ _
  clear s1 s2 s3 s4
  unfold ZLh at hk1
  have := ZMa (k) x.rules
  have := ZMl (ZLc (k) x.rules) x.memory
  have := ZMi (ZLd (ZLc (k) x.rules) x.memory) x.fired
  have := ZMn (ZLi (ZLd (ZLc (k) x.rules) x.memory) x.fired) x.log
  go_enter Tryz.func17, Tryz.ntmps17
  go_wp2_with fail
  refine (ZNw A1 _ c1 x.rules L1 _ _ rfl (by omega) (by omega) (by omega) (S1.out.below B0.out)).mono ?_
  rintro e w1 ⟨rfl, hb1⟩
  have K1 := Lib.hid (K0.out.later hb1)
  have B1 := Lib.hid (B0.out.trans (hb1.mono B0.out.size))
  have f0 := K1.out.at (i := 0) rfl
  have f1 := K1.out.at (i := 1) rfl
  have f2 := K1.out.at (i := 2) rfl
  have f3 := K1.out.at (i := 3) rfl
  have f4 := K1.out.at (i := 4) rfl
  have f5 := K1.out.at (i := 5) rfl
  have ge1 : ¬ (ZLc (k) x.rules < 0) := by omega
  clear hb1
  go_wp2_with fail
  refine (ZOo A2 _ c2 x.memory L2 _ _ rfl (by omega) (by omega) (by omega) (S2.out.below B1.out)).mono ?_
  rintro e w2 ⟨rfl, hb2⟩
  have K2 := Lib.hid (K1.out.later hb2)
  have B2 := Lib.hid (B1.out.trans (hb2.mono B1.out.size))
  clear f0 f1 f2 f3 f4 f5
  have f0 := K2.out.at (i := 0) rfl
  have f1 := K2.out.at (i := 1) rfl
  have f2 := K2.out.at (i := 2) rfl
  have f3 := K2.out.at (i := 3) rfl
  have f4 := K2.out.at (i := 4) rfl
  have f5 := K2.out.at (i := 5) rfl
  have ge2 : ¬ (ZLd (ZLc (k) x.rules) x.memory < 0) := by omega
  clear hb2
  go_wp2_with fail
  refine (ZOf A3 _ c3 x.fired L3 _ _ rfl (by omega) (by omega) (by omega) (S3.out.below B2.out)).mono ?_
  rintro e w3 ⟨rfl, hb3⟩
  have K3 := Lib.hid (K2.out.later hb3)
  have B3 := Lib.hid (B2.out.trans (hb3.mono B2.out.size))
  clear f0 f1 f2 f3 f4 f5
  have f0 := K3.out.at (i := 0) rfl
  have f1 := K3.out.at (i := 1) rfl
  have f2 := K3.out.at (i := 2) rfl
  have f3 := K3.out.at (i := 3) rfl
  have f4 := K3.out.at (i := 4) rfl
  have f5 := K3.out.at (i := 5) rfl
  have ge3 : ¬ (ZLi (ZLd (ZLc (k) x.rules) x.memory) x.fired < 0) := by omega
  clear hb3
  go_wp2_with fail
  refine (ZOw A4 _ c4 x.log L4 _ _ rfl (by omega) (by omega) (by omega) (S4.out.below B3.out)).mono ?_
  rintro e w4 ⟨rfl, hb4⟩
  have K4 := Lib.hid (K3.out.later hb4)
  have B4 := Lib.hid (B3.out.trans (hb4.mono B3.out.size))
  clear f0 f1 f2 f3 f4 f5
  have f0 := K4.out.at (i := 0) rfl
  have f1 := K4.out.at (i := 1) rfl
  have f2 := K4.out.at (i := 2) rfl
  have f3 := K4.out.at (i := 3) rfl
  have f4 := K4.out.at (i := 4) rfl
  have f5 := K4.out.at (i := 5) rfl
  have ge4 : ¬ (ZLv (ZLi (ZLd (ZLc (k) x.rules) x.memory) x.fired) x.log < 0) := by omega
  clear hb4
  go_wp2_with fail
  go_ret
  exact ⟨ZL2 rfl, B4.out⟩
set_option maxHeartbeats 1600000 in
theorem ZPx (x : ZMq) (A1 : Option Addr) (c1 : Nat) (L1 : List Nat) (A2 : Option Addr) (c2 : Nat) (L2 : List Nat) (A3 : Option Addr) (c3 : Nat) (L3 : List Nat) (A4 : Option Addr) (c4 : Nat) (L4 : List Nat) (A5 : Option Addr) (c5 : Nat) (L5 : List Nat) (A6 : Option Addr) (c6 : Nat) (L6 : List Nat) (A7 : Option Addr) (c7 : Nat) (L7 : List Nat) (A8 : Option Addr) (c8 : Nat) (L8 : List Nat) (A9 : Option Addr) (c9 : Nat) (L9 : List Nat) (k : Int) (w : World) (hk0 : 1 ≤ k) (hk1 : ZLC k x ≤ 4611686018427387904) (l1 : x.engine.rules.length ≤ 9223372036854775807) (l2 : x.engine.memory.length ≤ 9223372036854775807) (l3 : x.engine.fired.length ≤ 9223372036854775807) (l4 : x.engine.log.length ≤ 9223372036854775807) (l5 : x.network.rules.length ≤ 9223372036854775807) (l6 : x.network.ends.length ≤ 9223372036854775807) (l7 : x.network.alphas.length ≤ 9223372036854775807) (l8 : x.network.nodes.length ≤ 9223372036854775807) (l9 : x.network.facts.length ≤ 9223372036854775807) (s1 : Sli Zby w A1 (ZLy (k) x.engine.rules) L1) (s2 : Sli ZL8 w A2 (ZLH (ZLc (k) x.engine.rules) x.engine.memory) L2) (s3 : Sli ZLV w A3 (ZLw (ZLd (ZLc (k) x.engine.rules) x.engine.memory) x.engine.fired) L3) (s4 : Sli ZL9 w A4 (ZLG (ZLi (ZLd (ZLc (k) x.engine.rules) x.engine.memory) x.engine.fired) x.engine.log) L4) (s5 : Sli Zby w A5 (ZLy (ZLh (k) x.engine) x.network.rules) L5) (s6 : Sli Zj7 w A6 (ZLY (ZLc (ZLh (k) x.engine) x.network.rules) x.network.ends) L6) (s7 : Sli ZL7 w A7 (ZLI (ZLg (ZLc (ZLh (k) x.engine) x.network.rules) x.network.ends) x.network.alphas) L7) (s8 : Sli ZMg w A8 (ZLR (ZLe (ZLg (ZLc (ZLh (k) x.engine) x.network.rules) x.network.ends) x.network.alphas) x.network.nodes) L8) (s9 : Sli Yf w A9 (ZLK (ZLk (ZLe (ZLg (ZLc (ZLh (k) x.engine) x.network.rules) x.network.ends) x.network.alphas) x.network.nodes) x.network.facts) L9) :
    Calls Tryz.prog 8 #[.agg #[.slice A1 x.engine.rules.length c1, .slice A2 x.engine.memory.length c2, .int .i64 x.engine.clock, .slice A3 x.engine.fired.length c3, .bool x.engine.halted, .slice A4 x.engine.log.length c4, .slice A5 x.network.rules.length c5, .slice A6 x.network.ends.length c6, .slice A7 x.network.alphas.length c7, .slice A8 x.network.nodes.length c8, .slice A9 x.network.facts.length c9, .int .i64 x.network.tries], .int .i64 k] w fun e w' => e = .returned (.int .i64 (ZLC k x)) ∧ Below w.heap.size w w' := by
  have B0 : Hid (Below w.heap.size w (w.alloc (.cells #[.slice A1 x.engine.rules.length c1, .slice A2 x.engine.memory.length c2, .int .i64 x.engine.clock, .slice A3 x.engine.fired.length c3, .bool x.engine.halted, .slice A4 x.engine.log.length c4, .slice A5 x.network.rules.length c5, .slice A6 x.network.ends.length c6, .slice A7 x.network.alphas.length c7, .slice A8 x.network.nodes.length c8, .slice A9 x.network.facts.length c9, .int .i64 x.network.tries] 35))) := (Below.refl _ _).alloc (Nat.le_refl _) _
  have S1 := Lib.hid s1
  have S2 := Lib.hid s2
  have S3 := Lib.hid s3
  have S4 := Lib.hid s4
  have S5 := Lib.hid s5
  have S6 := Lib.hid s6
  have S7 := Lib.hid s7
  have S8 := Lib.hid s8
  have S9 := Lib.hid s9
  have K0 : Hid (Blk (w.alloc (.cells #[.slice A1 x.engine.rules.length c1, .slice A2 x.engine.memory.length c2, .int .i64 x.engine.clock, .slice A3 x.engine.fired.length c3, .bool x.engine.halted, .slice A4 x.engine.log.length c4, .slice A5 x.network.rules.length c5, .slice A6 x.network.ends.length c6, .slice A7 x.network.alphas.length c7, .slice A8 x.network.nodes.length c8, .slice A9 x.network.facts.length c9, .int .i64 x.network.tries] 35)) w.heap.size 35 #[.slice A1 x.engine.rules.length c1, .slice A2 x.engine.memory.length c2, .int .i64 x.engine.clock, .slice A3 x.engine.fired.length c3, .bool x.engine.halted, .slice A4 x.engine.log.length c4, .slice A5 x.network.rules.length c5, .slice A6 x.network.ends.length c6, .slice A7 x.network.alphas.length c7, .slice A8 x.network.nodes.length c8, .slice A9 x.network.facts.length c9, .int .i64 x.network.tries]) := Blk.new _ _ _
  clear s1 s2 s3 s4 s5 s6 s7 s8 s9
  unfold ZLC at hk1
  have := ZMG (k) x.engine
  have := ZMz (ZLh (k) x.engine) x.network
  go_enter Tryz.func8, Tryz.ntmps8
  go_wp2_with fail
  refine (ZOQ x.engine A1 c1 L1 A2 c2 L2 A3 c3 L3 A4 c4 L4 _ _ (by omega) (by omega) l1 l2 l3 l4 (S1.out.below B0.out) (S2.out.below B0.out) (S3.out.below B0.out) (S4.out.below B0.out)).mono ?_
  rintro e w1 ⟨rfl, hb1⟩
  have K1 := Lib.hid (K0.out.later hb1)
  have B1 := Lib.hid (B0.out.trans (hb1.mono B0.out.size))
  have f0 := K1.out.at (i := 0) rfl
  have f1 := K1.out.at (i := 1) rfl
  have f2 := K1.out.at (i := 2) rfl
  have f3 := K1.out.at (i := 3) rfl
  have f4 := K1.out.at (i := 4) rfl
  have f5 := K1.out.at (i := 5) rfl
  have f6 := K1.out.at (i := 6) rfl
  have f7 := K1.out.at (i := 7) rfl
  have f8 := K1.out.at (i := 8) rfl
  have f9 := K1.out.at (i := 9) rfl
  have f10 := K1.out.at (i := 10) rfl
  have f11 := K1.out.at (i := 11) rfl
  have ge1 : ¬ (ZLh (k) x.engine < 0) := by omega
  clear hb1
  go_wp2_with fail
  refine (ZOr x.network A5 c5 L5 A6 c6 L6 A7 c7 L7 A8 c8 L8 A9 c9 L9 _ _ (by omega) (by omega) l5 l6 l7 l8 l9 (S5.out.below B1.out) (S6.out.below B1.out) (S7.out.below B1.out) (S8.out.below B1.out) (S9.out.below B1.out)).mono ?_
  rintro e w2 ⟨rfl, hb2⟩
  have K2 := Lib.hid (K1.out.later hb2)
  have B2 := Lib.hid (B1.out.trans (hb2.mono B1.out.size))
  clear f0 f1 f2 f3 f4 f5 f6 f7 f8 f9 f10 f11
  have f0 := K2.out.at (i := 0) rfl
  have f1 := K2.out.at (i := 1) rfl
  have f2 := K2.out.at (i := 2) rfl
  have f3 := K2.out.at (i := 3) rfl
  have f4 := K2.out.at (i := 4) rfl
  have f5 := K2.out.at (i := 5) rfl
  have f6 := K2.out.at (i := 6) rfl
  have f7 := K2.out.at (i := 7) rfl
  have f8 := K2.out.at (i := 8) rfl
  have f9 := K2.out.at (i := 9) rfl
  have f10 := K2.out.at (i := 10) rfl
  have f11 := K2.out.at (i := 11) rfl
  have ge2 : ¬ (ZLQ (ZLh (k) x.engine) x.network < 0) := by omega
  clear hb2
  go_wp2_with fail
  go_ret
  exact ⟨ZL2 rfl, B2.out⟩
theorem ZNJ (cs : List Value) (x : ZMq) (L : List Nat) (k : Int) (w : World) (hk0 : 1 ≤ k) (hk1 : ZLC k x ≤ 4611686018427387904) (h : ZNR.rep w cs (ZOh k x) L) :
    Calls Tryz.prog 8 #[.agg cs.toArray, .int .i64 k] w fun e w' => e = .returned (.int .i64 (ZLC k x)) ∧ Below w.heap.size w w' := by
  obtain ⟨A1, c1, L1, A2, c2, L2, A3, c3, L3, A4, c4, L4, A5, c5, L5, A6, c6, L6, A7, c7, L7, A8, c8, L8, A9, c9, L9, rfl, hLL, n1, m1, s1, n2, m2, s2, n3, m3, s3, n4, m4, s4, n5, m5, s5, n6, m6, s6, n7, m7, s7, n8, m8, s8, n9, m9, s9⟩ := h
  subst L
  have ll1 : (ZLy (k) x.engine.rules).length = x.engine.rules.length := ZMw _ _
  have ll2 : (ZLH (ZLc (k) x.engine.rules) x.engine.memory).length = x.engine.memory.length := ZMB _ _
  have ll3 : (ZLw (ZLd (ZLc (k) x.engine.rules) x.engine.memory) x.engine.fired).length = x.engine.fired.length := ZMv _ _
  have ll4 : (ZLG (ZLi (ZLd (ZLc (k) x.engine.rules) x.engine.memory) x.engine.fired) x.engine.log).length = x.engine.log.length := ZMC _ _
  have ll5 : (ZLy (ZLh (k) x.engine) x.network.rules).length = x.network.rules.length := ZMw _ _
  have ll6 : (ZLY (ZLc (ZLh (k) x.engine) x.network.rules) x.network.ends).length = x.network.ends.length := ZMu _ _
  have ll7 : (ZLI (ZLg (ZLc (ZLh (k) x.engine) x.network.rules) x.network.ends) x.network.alphas).length = x.network.alphas.length := ZME _ _
  have ll8 : (ZLR (ZLe (ZLg (ZLc (ZLh (k) x.engine) x.network.rules) x.network.ends) x.network.alphas) x.network.nodes).length = x.network.nodes.length := ZMH _ _
  have ll9 : (ZLK (ZLk (ZLe (ZLg (ZLc (ZLh (k) x.engine) x.network.rules) x.network.ends) x.network.alphas) x.network.nodes) x.network.facts).length = x.network.facts.length := ZMd _ _
  simp only [ZOh, ZNW, ZNE, ZMw, ZMB, ZMv, ZMC, ZMu, ZME, ZMH, ZMd] at *
  exact ZPx x A1 c1 L1 A2 c2 L2 A3 c3 L3 A4 c4 L4 A5 c5 L5 A6 c6 L6 A7 c7 L7 A8 c8 L8 A9 c9 L9 k w hk0 hk1 (by unfold maxLen at *; omega) (by unfold maxLen at *; omega) (by unfold maxLen at *; omega) (by unfold maxLen at *; omega) (by unfold maxLen at *; omega) (by unfold maxLen at *; omega) (by unfold maxLen at *; omega) (by unfold maxLen at *; omega) (by unfold maxLen at *; omega) s1 s2 s3 s4 s5 s6 s7 s8 s9
end
section
open Go.RowKit

set_option maxRecDepth 100000 in
set_option maxHeartbeats 8000000 in
theorem ZNr (w : World) (hJ : J0 w)  :
    Calls Tryz.prog 3 #[] w fun e w' => e = .returned (.bool true) ∧ Below w.heap.size w w' := by
  have HJ := Lib.hid hJ
  clear hJ
  go_enter Tryz.func3, Tryz.ntmps3
  obtain ⟨R0, hs0, hi0, rl⟩ := ZOW 
  go_wp2_with fail
  refine (ZO9 hs0 _ (Zcb hJ0 HJ.out (Below.refl w.heap.size w))).mono ?_
  rintro e w1 ⟨cs, L_w0, rfl, gt, hb⟩
  obtain ⟨w0_A1, w0_c1, w0_A2, w0_c2, w0_A3, w0_c3, w0_A4, w0_c4, w0_A5, w0_c5, w0_A6, w0_c6, w0_A7, w0_c7, w0_A8, w0_c8, w0_A9, w0_c9, rfl⟩ := ZNb gt.rep
  have B1 := Lib.hid ((Below.refl w.heap.size w).trans (hb.mono (Below.refl w.heap.size w).size))
  have sz1 := hb.size
  have V_w0 := Lib.hid gt
  have ge_w0 := Lib.hid gt.own.ge
  have lt_w0 := Lib.hid gt.lt
  clear gt hb
  have hb := (Below.refl w1.heap.size w1).alloc (Nat.le_refl _) (.cells #[.slice w0_A1 R0.engine.rules.length w0_c1, .slice w0_A2 R0.engine.memory.length w0_c2, .int .i64 R0.engine.clock, .slice w0_A3 R0.engine.fired.length w0_c3, .bool R0.engine.halted, .slice w0_A4 R0.engine.log.length w0_c4, .slice w0_A5 R0.network.rules.length w0_c5, .slice w0_A6 R0.network.ends.length w0_c6, .slice w0_A7 R0.network.alphas.length w0_c7, .slice w0_A8 R0.network.nodes.length w0_c8, .slice w0_A9 R0.network.facts.length w0_c9, .int .i64 R0.network.tries] 35)
  have B2 := Lib.hid (B1.out.trans (hb.mono B1.out.size))
  have sz2 := hb.size
  have V_w0 := Lib.hid (V_w0.out.later hb)
  clear B1
  have szb_w0 : w1.heap.size + 1 ≤ (w1.alloc (.cells #[.slice w0_A1 R0.engine.rules.length w0_c1, .slice w0_A2 R0.engine.memory.length w0_c2, .int .i64 R0.engine.clock, .slice w0_A3 R0.engine.fired.length w0_c3, .bool R0.engine.halted, .slice w0_A4 R0.engine.log.length w0_c4, .slice w0_A5 R0.network.rules.length w0_c5, .slice w0_A6 R0.network.ends.length w0_c6, .slice w0_A7 R0.network.alphas.length w0_c7, .slice w0_A8 R0.network.nodes.length w0_c8, .slice w0_A9 R0.network.facts.length w0_c9, .int .i64 R0.network.tries] 35)).heap.size := Nat.le_of_eq (by simp only [World.alloc, Array.size_push])
  have K_w0 : Hid (Blk (w1.alloc (.cells #[.slice w0_A1 R0.engine.rules.length w0_c1, .slice w0_A2 R0.engine.memory.length w0_c2, .int .i64 R0.engine.clock, .slice w0_A3 R0.engine.fired.length w0_c3, .bool R0.engine.halted, .slice w0_A4 R0.engine.log.length w0_c4, .slice w0_A5 R0.network.rules.length w0_c5, .slice w0_A6 R0.network.ends.length w0_c6, .slice w0_A7 R0.network.alphas.length w0_c7, .slice w0_A8 R0.network.nodes.length w0_c8, .slice w0_A9 R0.network.facts.length w0_c9, .int .i64 R0.network.tries] 35)) w1.heap.size 35 #[.slice w0_A1 R0.engine.rules.length w0_c1, .slice w0_A2 R0.engine.memory.length w0_c2, .int .i64 R0.engine.clock, .slice w0_A3 R0.engine.fired.length w0_c3, .bool R0.engine.halted, .slice w0_A4 R0.engine.log.length w0_c4, .slice w0_A5 R0.network.rules.length w0_c5, .slice w0_A6 R0.network.ends.length w0_c6, .slice w0_A7 R0.network.alphas.length w0_c7, .slice w0_A8 R0.network.nodes.length w0_c8, .slice w0_A9 R0.network.facts.length w0_c9, .int .i64 R0.network.tries]) := Blk.new _ _ _
  have f_w0_0 := K_w0.out.at (i := 0) rfl
  have f_w0_1 := K_w0.out.at (i := 1) rfl
  have f_w0_2 := K_w0.out.at (i := 2) rfl
  have f_w0_3 := K_w0.out.at (i := 3) rfl
  have f_w0_4 := K_w0.out.at (i := 4) rfl
  have f_w0_5 := K_w0.out.at (i := 5) rfl
  have f_w0_6 := K_w0.out.at (i := 6) rfl
  have f_w0_7 := K_w0.out.at (i := 7) rfl
  have f_w0_8 := K_w0.out.at (i := 8) rfl
  have f_w0_9 := K_w0.out.at (i := 9) rfl
  have f_w0_10 := K_w0.out.at (i := 10) rfl
  have f_w0_11 := K_w0.out.at (i := 11) rfl
  clear hb
  go_wp2_with fail
  refine (ZNQ hi0 _ (Zcb hJ0 HJ.out B2.out)).mono ?_
  rintro e w3 ⟨cs, L_g0, rfl, gt, hb⟩
  obtain ⟨g0_A1, g0_c1, g0_A2, g0_c2, g0_A3, g0_c3, g0_A4, g0_c4, g0_A5, g0_c5, g0_A6, g0_c6, g0_A7, g0_c7, g0_A8, g0_c8, g0_A9, g0_c9, rfl⟩ := ZNb gt.rep
  have B3 := Lib.hid (B2.out.trans (hb.mono B2.out.size))
  have sz3 := hb.size
  have V_w0 := Lib.hid (V_w0.out.later hb)
  have K_w0 := Lib.hid (K_w0.out.later hb)
  clear f_w0_0 f_w0_1 f_w0_2 f_w0_3 f_w0_4 f_w0_5 f_w0_6 f_w0_7 f_w0_8 f_w0_9 f_w0_10 f_w0_11
  have f_w0_0 := K_w0.out.at (i := 0) rfl
  have f_w0_1 := K_w0.out.at (i := 1) rfl
  have f_w0_2 := K_w0.out.at (i := 2) rfl
  have f_w0_3 := K_w0.out.at (i := 3) rfl
  have f_w0_4 := K_w0.out.at (i := 4) rfl
  have f_w0_5 := K_w0.out.at (i := 5) rfl
  have f_w0_6 := K_w0.out.at (i := 6) rfl
  have f_w0_7 := K_w0.out.at (i := 7) rfl
  have f_w0_8 := K_w0.out.at (i := 8) rfl
  have f_w0_9 := K_w0.out.at (i := 9) rfl
  have f_w0_10 := K_w0.out.at (i := 10) rfl
  have f_w0_11 := K_w0.out.at (i := 11) rfl
  clear B2
  have V_g0 := Lib.hid gt
  have ge_g0 := Lib.hid gt.own.ge
  have lt_g0 := Lib.hid gt.lt
  clear gt hb
  have hb := (Below.refl w3.heap.size w3).alloc (Nat.le_refl _) (.cells #[.slice g0_A1 R0.engine.rules.length g0_c1, .slice g0_A2 R0.engine.memory.length g0_c2, .int .i64 R0.engine.clock, .slice g0_A3 R0.engine.fired.length g0_c3, .bool R0.engine.halted, .slice g0_A4 R0.engine.log.length g0_c4, .slice g0_A5 R0.network.rules.length g0_c5, .slice g0_A6 R0.network.ends.length g0_c6, .slice g0_A7 R0.network.alphas.length g0_c7, .slice g0_A8 R0.network.nodes.length g0_c8, .slice g0_A9 R0.network.facts.length g0_c9, .int .i64 R0.network.tries] 35)
  have B4 := Lib.hid (B3.out.trans (hb.mono B3.out.size))
  have sz4 := hb.size
  have V_w0 := Lib.hid (V_w0.out.later hb)
  have V_g0 := Lib.hid (V_g0.out.later hb)
  have K_w0 := Lib.hid (K_w0.out.later hb)
  clear f_w0_0 f_w0_1 f_w0_2 f_w0_3 f_w0_4 f_w0_5 f_w0_6 f_w0_7 f_w0_8 f_w0_9 f_w0_10 f_w0_11
  have f_w0_0 := K_w0.out.at (i := 0) rfl
  have f_w0_1 := K_w0.out.at (i := 1) rfl
  have f_w0_2 := K_w0.out.at (i := 2) rfl
  have f_w0_3 := K_w0.out.at (i := 3) rfl
  have f_w0_4 := K_w0.out.at (i := 4) rfl
  have f_w0_5 := K_w0.out.at (i := 5) rfl
  have f_w0_6 := K_w0.out.at (i := 6) rfl
  have f_w0_7 := K_w0.out.at (i := 7) rfl
  have f_w0_8 := K_w0.out.at (i := 8) rfl
  have f_w0_9 := K_w0.out.at (i := 9) rfl
  have f_w0_10 := K_w0.out.at (i := 10) rfl
  have f_w0_11 := K_w0.out.at (i := 11) rfl
  clear B3
  have szb_g0 : w3.heap.size + 1 ≤ (w3.alloc (.cells #[.slice g0_A1 R0.engine.rules.length g0_c1, .slice g0_A2 R0.engine.memory.length g0_c2, .int .i64 R0.engine.clock, .slice g0_A3 R0.engine.fired.length g0_c3, .bool R0.engine.halted, .slice g0_A4 R0.engine.log.length g0_c4, .slice g0_A5 R0.network.rules.length g0_c5, .slice g0_A6 R0.network.ends.length g0_c6, .slice g0_A7 R0.network.alphas.length g0_c7, .slice g0_A8 R0.network.nodes.length g0_c8, .slice g0_A9 R0.network.facts.length g0_c9, .int .i64 R0.network.tries] 35)).heap.size := Nat.le_of_eq (by simp only [World.alloc, Array.size_push])
  have K_g0 : Hid (Blk (w3.alloc (.cells #[.slice g0_A1 R0.engine.rules.length g0_c1, .slice g0_A2 R0.engine.memory.length g0_c2, .int .i64 R0.engine.clock, .slice g0_A3 R0.engine.fired.length g0_c3, .bool R0.engine.halted, .slice g0_A4 R0.engine.log.length g0_c4, .slice g0_A5 R0.network.rules.length g0_c5, .slice g0_A6 R0.network.ends.length g0_c6, .slice g0_A7 R0.network.alphas.length g0_c7, .slice g0_A8 R0.network.nodes.length g0_c8, .slice g0_A9 R0.network.facts.length g0_c9, .int .i64 R0.network.tries] 35)) w3.heap.size 35 #[.slice g0_A1 R0.engine.rules.length g0_c1, .slice g0_A2 R0.engine.memory.length g0_c2, .int .i64 R0.engine.clock, .slice g0_A3 R0.engine.fired.length g0_c3, .bool R0.engine.halted, .slice g0_A4 R0.engine.log.length g0_c4, .slice g0_A5 R0.network.rules.length g0_c5, .slice g0_A6 R0.network.ends.length g0_c6, .slice g0_A7 R0.network.alphas.length g0_c7, .slice g0_A8 R0.network.nodes.length g0_c8, .slice g0_A9 R0.network.facts.length g0_c9, .int .i64 R0.network.tries]) := Blk.new _ _ _
  have f_g0_0 := K_g0.out.at (i := 0) rfl
  have f_g0_1 := K_g0.out.at (i := 1) rfl
  have f_g0_2 := K_g0.out.at (i := 2) rfl
  have f_g0_3 := K_g0.out.at (i := 3) rfl
  have f_g0_4 := K_g0.out.at (i := 4) rfl
  have f_g0_5 := K_g0.out.at (i := 5) rfl
  have f_g0_6 := K_g0.out.at (i := 6) rfl
  have f_g0_7 := K_g0.out.at (i := 7) rfl
  have f_g0_8 := K_g0.out.at (i := 8) rfl
  have f_g0_9 := K_g0.out.at (i := 9) rfl
  have f_g0_10 := K_g0.out.at (i := 10) rfl
  have f_g0_11 := K_g0.out.at (i := 11) rfl
  clear hb
  go_wp2_with fail
  refine (ZOy [.slice g0_A1 R0.engine.rules.length g0_c1, .slice g0_A2 R0.engine.memory.length g0_c2, .int .i64 R0.engine.clock, .slice g0_A3 R0.engine.fired.length g0_c3, .bool R0.engine.halted, .slice g0_A4 R0.engine.log.length g0_c4, .slice g0_A5 R0.network.rules.length g0_c5, .slice g0_A6 R0.network.ends.length g0_c6, .slice g0_A7 R0.network.alphas.length g0_c7, .slice g0_A8 R0.network.nodes.length g0_c8, .slice g0_A9 R0.network.facts.length g0_c9, .int .i64 R0.network.tries] [.slice w0_A1 R0.engine.rules.length w0_c1, .slice w0_A2 R0.engine.memory.length w0_c2, .int .i64 R0.engine.clock, .slice w0_A3 R0.engine.fired.length w0_c3, .bool R0.engine.halted, .slice w0_A4 R0.engine.log.length w0_c4, .slice w0_A5 R0.network.rules.length w0_c5, .slice w0_A6 R0.network.ends.length w0_c6, .slice w0_A7 R0.network.alphas.length w0_c7, .slice w0_A8 R0.network.nodes.length w0_c8, .slice w0_A9 R0.network.facts.length w0_c9, .int .i64 R0.network.tries] R0 L_g0 L_w0 _ V_g0.out.rep V_w0.out.rep).mono ?_
  rintro e w5 ⟨rfl, hb⟩
  have B5 := Lib.hid (B4.out.trans (hb.mono B4.out.size))
  have sz5 := hb.size
  have V_w0 := Lib.hid (V_w0.out.later hb)
  have V_g0 := Lib.hid (V_g0.out.later hb)
  have K_w0 := Lib.hid (K_w0.out.later hb)
  clear f_w0_0 f_w0_1 f_w0_2 f_w0_3 f_w0_4 f_w0_5 f_w0_6 f_w0_7 f_w0_8 f_w0_9 f_w0_10 f_w0_11
  have f_w0_0 := K_w0.out.at (i := 0) rfl
  have f_w0_1 := K_w0.out.at (i := 1) rfl
  have f_w0_2 := K_w0.out.at (i := 2) rfl
  have f_w0_3 := K_w0.out.at (i := 3) rfl
  have f_w0_4 := K_w0.out.at (i := 4) rfl
  have f_w0_5 := K_w0.out.at (i := 5) rfl
  have f_w0_6 := K_w0.out.at (i := 6) rfl
  have f_w0_7 := K_w0.out.at (i := 7) rfl
  have f_w0_8 := K_w0.out.at (i := 8) rfl
  have f_w0_9 := K_w0.out.at (i := 9) rfl
  have f_w0_10 := K_w0.out.at (i := 10) rfl
  have f_w0_11 := K_w0.out.at (i := 11) rfl
  have K_g0 := Lib.hid (K_g0.out.later hb)
  clear f_g0_0 f_g0_1 f_g0_2 f_g0_3 f_g0_4 f_g0_5 f_g0_6 f_g0_7 f_g0_8 f_g0_9 f_g0_10 f_g0_11
  have f_g0_0 := K_g0.out.at (i := 0) rfl
  have f_g0_1 := K_g0.out.at (i := 1) rfl
  have f_g0_2 := K_g0.out.at (i := 2) rfl
  have f_g0_3 := K_g0.out.at (i := 3) rfl
  have f_g0_4 := K_g0.out.at (i := 4) rfl
  have f_g0_5 := K_g0.out.at (i := 5) rfl
  have f_g0_6 := K_g0.out.at (i := 6) rfl
  have f_g0_7 := K_g0.out.at (i := 7) rfl
  have f_g0_8 := K_g0.out.at (i := 8) rfl
  have f_g0_9 := K_g0.out.at (i := 9) rfl
  have f_g0_10 := K_g0.out.at (i := 10) rfl
  have f_g0_11 := K_g0.out.at (i := 11) rfl
  clear B4
  clear hb
  have nl_g0_5 := ZPh ((1 : Int)) R0
  have nb_g0_5 : ZLC ((1 : Int)) R0 ≤ 4611686018427387904 := by omega
  have ng_g0_5 := ZPi ((1 : Int)) R0
  go_wp2_with fail
  refine (ZO8 _ R0 L_g0 _ _ _ (by omega) (by omega) V_g0.out).mono ?_
  rintro e w6 ⟨rfl, gm, on⟩
  have B6 := Lib.hid (B5.out.trans (on.below B5.out.size (fun y m => by have := ge_g0.out y m; omega)))
  have sz6 := on.size
  have V_w0 := Lib.hid (V_w0.out.only on (fun y m m' => by have := lt_w0.out y m; have := ge_g0.out y m'; omega))
  have K_w0 := Lib.hid (ZMc K_w0.out on (fun m => by have := ge_g0.out _ m; have := lt_g0.out _ m; omega))
  clear f_w0_0 f_w0_1 f_w0_2 f_w0_3 f_w0_4 f_w0_5 f_w0_6 f_w0_7 f_w0_8 f_w0_9 f_w0_10 f_w0_11
  have f_w0_0 := K_w0.out.at (i := 0) rfl
  have f_w0_1 := K_w0.out.at (i := 1) rfl
  have f_w0_2 := K_w0.out.at (i := 2) rfl
  have f_w0_3 := K_w0.out.at (i := 3) rfl
  have f_w0_4 := K_w0.out.at (i := 4) rfl
  have f_w0_5 := K_w0.out.at (i := 5) rfl
  have f_w0_6 := K_w0.out.at (i := 6) rfl
  have f_w0_7 := K_w0.out.at (i := 7) rfl
  have f_w0_8 := K_w0.out.at (i := 8) rfl
  have f_w0_9 := K_w0.out.at (i := 9) rfl
  have f_w0_10 := K_w0.out.at (i := 10) rfl
  have f_w0_11 := K_w0.out.at (i := 11) rfl
  have K_g0 := Lib.hid (ZMc K_g0.out on (fun m => by have := ge_g0.out _ m; have := lt_g0.out _ m; omega))
  clear f_g0_0 f_g0_1 f_g0_2 f_g0_3 f_g0_4 f_g0_5 f_g0_6 f_g0_7 f_g0_8 f_g0_9 f_g0_10 f_g0_11
  have f_g0_0 := K_g0.out.at (i := 0) rfl
  have f_g0_1 := K_g0.out.at (i := 1) rfl
  have f_g0_2 := K_g0.out.at (i := 2) rfl
  have f_g0_3 := K_g0.out.at (i := 3) rfl
  have f_g0_4 := K_g0.out.at (i := 4) rfl
  have f_g0_5 := K_g0.out.at (i := 5) rfl
  have f_g0_6 := K_g0.out.at (i := 6) rfl
  have f_g0_7 := K_g0.out.at (i := 7) rfl
  have f_g0_8 := K_g0.out.at (i := 8) rfl
  have f_g0_9 := K_g0.out.at (i := 9) rfl
  have f_g0_10 := K_g0.out.at (i := 10) rfl
  have f_g0_11 := K_g0.out.at (i := 11) rfl
  clear B5
  have V_g0 := Lib.hid gm
  clear gm on
  go_wp2_with fail
  refine (ZNJ _ R0 L_g0 _ _ (by omega) (by omega) V_g0.out.rep).mono ?_
  rintro e w7 ⟨rfl, hb⟩
  have B7 := Lib.hid (B6.out.trans (hb.mono B6.out.size))
  have sz7 := hb.size
  have V_w0 := Lib.hid (V_w0.out.later hb)
  have V_g0 := Lib.hid (V_g0.out.later hb)
  have K_w0 := Lib.hid (K_w0.out.later hb)
  clear f_w0_0 f_w0_1 f_w0_2 f_w0_3 f_w0_4 f_w0_5 f_w0_6 f_w0_7 f_w0_8 f_w0_9 f_w0_10 f_w0_11
  have f_w0_0 := K_w0.out.at (i := 0) rfl
  have f_w0_1 := K_w0.out.at (i := 1) rfl
  have f_w0_2 := K_w0.out.at (i := 2) rfl
  have f_w0_3 := K_w0.out.at (i := 3) rfl
  have f_w0_4 := K_w0.out.at (i := 4) rfl
  have f_w0_5 := K_w0.out.at (i := 5) rfl
  have f_w0_6 := K_w0.out.at (i := 6) rfl
  have f_w0_7 := K_w0.out.at (i := 7) rfl
  have f_w0_8 := K_w0.out.at (i := 8) rfl
  have f_w0_9 := K_w0.out.at (i := 9) rfl
  have f_w0_10 := K_w0.out.at (i := 10) rfl
  have f_w0_11 := K_w0.out.at (i := 11) rfl
  have K_g0 := Lib.hid (K_g0.out.later hb)
  clear f_g0_0 f_g0_1 f_g0_2 f_g0_3 f_g0_4 f_g0_5 f_g0_6 f_g0_7 f_g0_8 f_g0_9 f_g0_10 f_g0_11
  have f_g0_0 := K_g0.out.at (i := 0) rfl
  have f_g0_1 := K_g0.out.at (i := 1) rfl
  have f_g0_2 := K_g0.out.at (i := 2) rfl
  have f_g0_3 := K_g0.out.at (i := 3) rfl
  have f_g0_4 := K_g0.out.at (i := 4) rfl
  have f_g0_5 := K_g0.out.at (i := 5) rfl
  have f_g0_6 := K_g0.out.at (i := 6) rfl
  have f_g0_7 := K_g0.out.at (i := 7) rfl
  have f_g0_8 := K_g0.out.at (i := 8) rfl
  have f_g0_9 := K_g0.out.at (i := 9) rfl
  have f_g0_10 := K_g0.out.at (i := 10) rfl
  have f_g0_11 := K_g0.out.at (i := 11) rfl
  clear B6
  clear hb
  have qn7 : ¬ (ZLC ((1 : Int)) R0 < 0) := by omega
  have qm7 : ((ZLC ((1 : Int)) R0) != (ZLC ((1 : Int)) R0)) = false := by simp
  go_wp2_with fail
  refine (ZNQ hi0 _ (Zcb hJ0 HJ.out B7.out)).mono ?_
  rintro e w8 ⟨cs, L_h0, rfl, gt, hb⟩
  obtain ⟨h0_A1, h0_c1, h0_A2, h0_c2, h0_A3, h0_c3, h0_A4, h0_c4, h0_A5, h0_c5, h0_A6, h0_c6, h0_A7, h0_c7, h0_A8, h0_c8, h0_A9, h0_c9, rfl⟩ := ZNb gt.rep
  have B8 := Lib.hid (B7.out.trans (hb.mono B7.out.size))
  have sz8 := hb.size
  have V_w0 := Lib.hid (V_w0.out.later hb)
  have V_g0 := Lib.hid (V_g0.out.later hb)
  have K_w0 := Lib.hid (K_w0.out.later hb)
  clear f_w0_0 f_w0_1 f_w0_2 f_w0_3 f_w0_4 f_w0_5 f_w0_6 f_w0_7 f_w0_8 f_w0_9 f_w0_10 f_w0_11
  have f_w0_0 := K_w0.out.at (i := 0) rfl
  have f_w0_1 := K_w0.out.at (i := 1) rfl
  have f_w0_2 := K_w0.out.at (i := 2) rfl
  have f_w0_3 := K_w0.out.at (i := 3) rfl
  have f_w0_4 := K_w0.out.at (i := 4) rfl
  have f_w0_5 := K_w0.out.at (i := 5) rfl
  have f_w0_6 := K_w0.out.at (i := 6) rfl
  have f_w0_7 := K_w0.out.at (i := 7) rfl
  have f_w0_8 := K_w0.out.at (i := 8) rfl
  have f_w0_9 := K_w0.out.at (i := 9) rfl
  have f_w0_10 := K_w0.out.at (i := 10) rfl
  have f_w0_11 := K_w0.out.at (i := 11) rfl
  have K_g0 := Lib.hid (K_g0.out.later hb)
  clear f_g0_0 f_g0_1 f_g0_2 f_g0_3 f_g0_4 f_g0_5 f_g0_6 f_g0_7 f_g0_8 f_g0_9 f_g0_10 f_g0_11
  have f_g0_0 := K_g0.out.at (i := 0) rfl
  have f_g0_1 := K_g0.out.at (i := 1) rfl
  have f_g0_2 := K_g0.out.at (i := 2) rfl
  have f_g0_3 := K_g0.out.at (i := 3) rfl
  have f_g0_4 := K_g0.out.at (i := 4) rfl
  have f_g0_5 := K_g0.out.at (i := 5) rfl
  have f_g0_6 := K_g0.out.at (i := 6) rfl
  have f_g0_7 := K_g0.out.at (i := 7) rfl
  have f_g0_8 := K_g0.out.at (i := 8) rfl
  have f_g0_9 := K_g0.out.at (i := 9) rfl
  have f_g0_10 := K_g0.out.at (i := 10) rfl
  have f_g0_11 := K_g0.out.at (i := 11) rfl
  clear B7
  have V_h0 := Lib.hid gt
  have ge_h0 := Lib.hid gt.own.ge
  have lt_h0 := Lib.hid gt.lt
  clear gt hb
  have hb := (Below.refl w8.heap.size w8).alloc (Nat.le_refl _) (.cells #[.slice h0_A1 R0.engine.rules.length h0_c1, .slice h0_A2 R0.engine.memory.length h0_c2, .int .i64 R0.engine.clock, .slice h0_A3 R0.engine.fired.length h0_c3, .bool R0.engine.halted, .slice h0_A4 R0.engine.log.length h0_c4, .slice h0_A5 R0.network.rules.length h0_c5, .slice h0_A6 R0.network.ends.length h0_c6, .slice h0_A7 R0.network.alphas.length h0_c7, .slice h0_A8 R0.network.nodes.length h0_c8, .slice h0_A9 R0.network.facts.length h0_c9, .int .i64 R0.network.tries] 35)
  have B9 := Lib.hid (B8.out.trans (hb.mono B8.out.size))
  have sz9 := hb.size
  have V_w0 := Lib.hid (V_w0.out.later hb)
  have V_g0 := Lib.hid (V_g0.out.later hb)
  have V_h0 := Lib.hid (V_h0.out.later hb)
  have K_w0 := Lib.hid (K_w0.out.later hb)
  clear f_w0_0 f_w0_1 f_w0_2 f_w0_3 f_w0_4 f_w0_5 f_w0_6 f_w0_7 f_w0_8 f_w0_9 f_w0_10 f_w0_11
  have f_w0_0 := K_w0.out.at (i := 0) rfl
  have f_w0_1 := K_w0.out.at (i := 1) rfl
  have f_w0_2 := K_w0.out.at (i := 2) rfl
  have f_w0_3 := K_w0.out.at (i := 3) rfl
  have f_w0_4 := K_w0.out.at (i := 4) rfl
  have f_w0_5 := K_w0.out.at (i := 5) rfl
  have f_w0_6 := K_w0.out.at (i := 6) rfl
  have f_w0_7 := K_w0.out.at (i := 7) rfl
  have f_w0_8 := K_w0.out.at (i := 8) rfl
  have f_w0_9 := K_w0.out.at (i := 9) rfl
  have f_w0_10 := K_w0.out.at (i := 10) rfl
  have f_w0_11 := K_w0.out.at (i := 11) rfl
  have K_g0 := Lib.hid (K_g0.out.later hb)
  clear f_g0_0 f_g0_1 f_g0_2 f_g0_3 f_g0_4 f_g0_5 f_g0_6 f_g0_7 f_g0_8 f_g0_9 f_g0_10 f_g0_11
  have f_g0_0 := K_g0.out.at (i := 0) rfl
  have f_g0_1 := K_g0.out.at (i := 1) rfl
  have f_g0_2 := K_g0.out.at (i := 2) rfl
  have f_g0_3 := K_g0.out.at (i := 3) rfl
  have f_g0_4 := K_g0.out.at (i := 4) rfl
  have f_g0_5 := K_g0.out.at (i := 5) rfl
  have f_g0_6 := K_g0.out.at (i := 6) rfl
  have f_g0_7 := K_g0.out.at (i := 7) rfl
  have f_g0_8 := K_g0.out.at (i := 8) rfl
  have f_g0_9 := K_g0.out.at (i := 9) rfl
  have f_g0_10 := K_g0.out.at (i := 10) rfl
  have f_g0_11 := K_g0.out.at (i := 11) rfl
  clear B8
  have szb_h0 : w8.heap.size + 1 ≤ (w8.alloc (.cells #[.slice h0_A1 R0.engine.rules.length h0_c1, .slice h0_A2 R0.engine.memory.length h0_c2, .int .i64 R0.engine.clock, .slice h0_A3 R0.engine.fired.length h0_c3, .bool R0.engine.halted, .slice h0_A4 R0.engine.log.length h0_c4, .slice h0_A5 R0.network.rules.length h0_c5, .slice h0_A6 R0.network.ends.length h0_c6, .slice h0_A7 R0.network.alphas.length h0_c7, .slice h0_A8 R0.network.nodes.length h0_c8, .slice h0_A9 R0.network.facts.length h0_c9, .int .i64 R0.network.tries] 35)).heap.size := Nat.le_of_eq (by simp only [World.alloc, Array.size_push])
  have K_h0 : Hid (Blk (w8.alloc (.cells #[.slice h0_A1 R0.engine.rules.length h0_c1, .slice h0_A2 R0.engine.memory.length h0_c2, .int .i64 R0.engine.clock, .slice h0_A3 R0.engine.fired.length h0_c3, .bool R0.engine.halted, .slice h0_A4 R0.engine.log.length h0_c4, .slice h0_A5 R0.network.rules.length h0_c5, .slice h0_A6 R0.network.ends.length h0_c6, .slice h0_A7 R0.network.alphas.length h0_c7, .slice h0_A8 R0.network.nodes.length h0_c8, .slice h0_A9 R0.network.facts.length h0_c9, .int .i64 R0.network.tries] 35)) w8.heap.size 35 #[.slice h0_A1 R0.engine.rules.length h0_c1, .slice h0_A2 R0.engine.memory.length h0_c2, .int .i64 R0.engine.clock, .slice h0_A3 R0.engine.fired.length h0_c3, .bool R0.engine.halted, .slice h0_A4 R0.engine.log.length h0_c4, .slice h0_A5 R0.network.rules.length h0_c5, .slice h0_A6 R0.network.ends.length h0_c6, .slice h0_A7 R0.network.alphas.length h0_c7, .slice h0_A8 R0.network.nodes.length h0_c8, .slice h0_A9 R0.network.facts.length h0_c9, .int .i64 R0.network.tries]) := Blk.new _ _ _
  have f_h0_0 := K_h0.out.at (i := 0) rfl
  have f_h0_1 := K_h0.out.at (i := 1) rfl
  have f_h0_2 := K_h0.out.at (i := 2) rfl
  have f_h0_3 := K_h0.out.at (i := 3) rfl
  have f_h0_4 := K_h0.out.at (i := 4) rfl
  have f_h0_5 := K_h0.out.at (i := 5) rfl
  have f_h0_6 := K_h0.out.at (i := 6) rfl
  have f_h0_7 := K_h0.out.at (i := 7) rfl
  have f_h0_8 := K_h0.out.at (i := 8) rfl
  have f_h0_9 := K_h0.out.at (i := 9) rfl
  have f_h0_10 := K_h0.out.at (i := 10) rfl
  have f_h0_11 := K_h0.out.at (i := 11) rfl
  clear hb
  go_wp2_with fail
  refine (ZOy [.slice h0_A1 R0.engine.rules.length h0_c1, .slice h0_A2 R0.engine.memory.length h0_c2, .int .i64 R0.engine.clock, .slice h0_A3 R0.engine.fired.length h0_c3, .bool R0.engine.halted, .slice h0_A4 R0.engine.log.length h0_c4, .slice h0_A5 R0.network.rules.length h0_c5, .slice h0_A6 R0.network.ends.length h0_c6, .slice h0_A7 R0.network.alphas.length h0_c7, .slice h0_A8 R0.network.nodes.length h0_c8, .slice h0_A9 R0.network.facts.length h0_c9, .int .i64 R0.network.tries] [.slice w0_A1 R0.engine.rules.length w0_c1, .slice w0_A2 R0.engine.memory.length w0_c2, .int .i64 R0.engine.clock, .slice w0_A3 R0.engine.fired.length w0_c3, .bool R0.engine.halted, .slice w0_A4 R0.engine.log.length w0_c4, .slice w0_A5 R0.network.rules.length w0_c5, .slice w0_A6 R0.network.ends.length w0_c6, .slice w0_A7 R0.network.alphas.length w0_c7, .slice w0_A8 R0.network.nodes.length w0_c8, .slice w0_A9 R0.network.facts.length w0_c9, .int .i64 R0.network.tries] R0 L_h0 L_w0 _ V_h0.out.rep V_w0.out.rep).mono ?_
  rintro e w10 ⟨rfl, hb⟩
  have B10 := Lib.hid (B9.out.trans (hb.mono B9.out.size))
  have sz10 := hb.size
  have V_w0 := Lib.hid (V_w0.out.later hb)
  have V_g0 := Lib.hid (V_g0.out.later hb)
  have V_h0 := Lib.hid (V_h0.out.later hb)
  have K_w0 := Lib.hid (K_w0.out.later hb)
  clear f_w0_0 f_w0_1 f_w0_2 f_w0_3 f_w0_4 f_w0_5 f_w0_6 f_w0_7 f_w0_8 f_w0_9 f_w0_10 f_w0_11
  have f_w0_0 := K_w0.out.at (i := 0) rfl
  have f_w0_1 := K_w0.out.at (i := 1) rfl
  have f_w0_2 := K_w0.out.at (i := 2) rfl
  have f_w0_3 := K_w0.out.at (i := 3) rfl
  have f_w0_4 := K_w0.out.at (i := 4) rfl
  have f_w0_5 := K_w0.out.at (i := 5) rfl
  have f_w0_6 := K_w0.out.at (i := 6) rfl
  have f_w0_7 := K_w0.out.at (i := 7) rfl
  have f_w0_8 := K_w0.out.at (i := 8) rfl
  have f_w0_9 := K_w0.out.at (i := 9) rfl
  have f_w0_10 := K_w0.out.at (i := 10) rfl
  have f_w0_11 := K_w0.out.at (i := 11) rfl
  have K_g0 := Lib.hid (K_g0.out.later hb)
  clear f_g0_0 f_g0_1 f_g0_2 f_g0_3 f_g0_4 f_g0_5 f_g0_6 f_g0_7 f_g0_8 f_g0_9 f_g0_10 f_g0_11
  have f_g0_0 := K_g0.out.at (i := 0) rfl
  have f_g0_1 := K_g0.out.at (i := 1) rfl
  have f_g0_2 := K_g0.out.at (i := 2) rfl
  have f_g0_3 := K_g0.out.at (i := 3) rfl
  have f_g0_4 := K_g0.out.at (i := 4) rfl
  have f_g0_5 := K_g0.out.at (i := 5) rfl
  have f_g0_6 := K_g0.out.at (i := 6) rfl
  have f_g0_7 := K_g0.out.at (i := 7) rfl
  have f_g0_8 := K_g0.out.at (i := 8) rfl
  have f_g0_9 := K_g0.out.at (i := 9) rfl
  have f_g0_10 := K_g0.out.at (i := 10) rfl
  have f_g0_11 := K_g0.out.at (i := 11) rfl
  have K_h0 := Lib.hid (K_h0.out.later hb)
  clear f_h0_0 f_h0_1 f_h0_2 f_h0_3 f_h0_4 f_h0_5 f_h0_6 f_h0_7 f_h0_8 f_h0_9 f_h0_10 f_h0_11
  have f_h0_0 := K_h0.out.at (i := 0) rfl
  have f_h0_1 := K_h0.out.at (i := 1) rfl
  have f_h0_2 := K_h0.out.at (i := 2) rfl
  have f_h0_3 := K_h0.out.at (i := 3) rfl
  have f_h0_4 := K_h0.out.at (i := 4) rfl
  have f_h0_5 := K_h0.out.at (i := 5) rfl
  have f_h0_6 := K_h0.out.at (i := 6) rfl
  have f_h0_7 := K_h0.out.at (i := 7) rfl
  have f_h0_8 := K_h0.out.at (i := 8) rfl
  have f_h0_9 := K_h0.out.at (i := 9) rfl
  have f_h0_10 := K_h0.out.at (i := 10) rfl
  have f_h0_11 := K_h0.out.at (i := 11) rfl
  clear B9
  clear hb
  go_wp2_with fail
  refine (ZNJ _ R0 L_g0 _ _ (by omega) (by omega) V_g0.out.rep).mono ?_
  rintro e w11 ⟨rfl, hb⟩
  have B11 := Lib.hid (B10.out.trans (hb.mono B10.out.size))
  have sz11 := hb.size
  have V_w0 := Lib.hid (V_w0.out.later hb)
  have V_g0 := Lib.hid (V_g0.out.later hb)
  have V_h0 := Lib.hid (V_h0.out.later hb)
  have K_w0 := Lib.hid (K_w0.out.later hb)
  clear f_w0_0 f_w0_1 f_w0_2 f_w0_3 f_w0_4 f_w0_5 f_w0_6 f_w0_7 f_w0_8 f_w0_9 f_w0_10 f_w0_11
  have f_w0_0 := K_w0.out.at (i := 0) rfl
  have f_w0_1 := K_w0.out.at (i := 1) rfl
  have f_w0_2 := K_w0.out.at (i := 2) rfl
  have f_w0_3 := K_w0.out.at (i := 3) rfl
  have f_w0_4 := K_w0.out.at (i := 4) rfl
  have f_w0_5 := K_w0.out.at (i := 5) rfl
  have f_w0_6 := K_w0.out.at (i := 6) rfl
  have f_w0_7 := K_w0.out.at (i := 7) rfl
  have f_w0_8 := K_w0.out.at (i := 8) rfl
  have f_w0_9 := K_w0.out.at (i := 9) rfl
  have f_w0_10 := K_w0.out.at (i := 10) rfl
  have f_w0_11 := K_w0.out.at (i := 11) rfl
  have K_g0 := Lib.hid (K_g0.out.later hb)
  clear f_g0_0 f_g0_1 f_g0_2 f_g0_3 f_g0_4 f_g0_5 f_g0_6 f_g0_7 f_g0_8 f_g0_9 f_g0_10 f_g0_11
  have f_g0_0 := K_g0.out.at (i := 0) rfl
  have f_g0_1 := K_g0.out.at (i := 1) rfl
  have f_g0_2 := K_g0.out.at (i := 2) rfl
  have f_g0_3 := K_g0.out.at (i := 3) rfl
  have f_g0_4 := K_g0.out.at (i := 4) rfl
  have f_g0_5 := K_g0.out.at (i := 5) rfl
  have f_g0_6 := K_g0.out.at (i := 6) rfl
  have f_g0_7 := K_g0.out.at (i := 7) rfl
  have f_g0_8 := K_g0.out.at (i := 8) rfl
  have f_g0_9 := K_g0.out.at (i := 9) rfl
  have f_g0_10 := K_g0.out.at (i := 10) rfl
  have f_g0_11 := K_g0.out.at (i := 11) rfl
  have K_h0 := Lib.hid (K_h0.out.later hb)
  clear f_h0_0 f_h0_1 f_h0_2 f_h0_3 f_h0_4 f_h0_5 f_h0_6 f_h0_7 f_h0_8 f_h0_9 f_h0_10 f_h0_11
  have f_h0_0 := K_h0.out.at (i := 0) rfl
  have f_h0_1 := K_h0.out.at (i := 1) rfl
  have f_h0_2 := K_h0.out.at (i := 2) rfl
  have f_h0_3 := K_h0.out.at (i := 3) rfl
  have f_h0_4 := K_h0.out.at (i := 4) rfl
  have f_h0_5 := K_h0.out.at (i := 5) rfl
  have f_h0_6 := K_h0.out.at (i := 6) rfl
  have f_h0_7 := K_h0.out.at (i := 7) rfl
  have f_h0_8 := K_h0.out.at (i := 8) rfl
  have f_h0_9 := K_h0.out.at (i := 9) rfl
  have f_h0_10 := K_h0.out.at (i := 10) rfl
  have f_h0_11 := K_h0.out.at (i := 11) rfl
  clear B10
  clear hb
  have qn11 : ¬ (ZLC ((1 : Int)) R0 < 0) := by omega
  have qm11 : ((ZLC ((1 : Int)) R0) != (ZLC ((1 : Int)) R0)) = false := by simp
  go_wp2_with fail
  go_ret
  exact ⟨rfl, B11.out⟩
end
end Go.Proofs.YthikodhnkaofaaaGreatDoor
