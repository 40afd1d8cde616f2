/- Contracts of the law files' eq.. functions, for equal data. Printed by gen.py. -/
import Derived.Test.YtfmplnebdldpdaaProg
import Derived.Test.YtfmplnebdldpdaaTypes
import Derived.Outline
import Derived.WalkSpells
import Derived.StillTailTactics
namespace Go.Proofs.Ytfmplnebdldpdaa
open Go.RowKit

def TruePost (w : World) (e : Ending) (w' : World) : Prop := e = .returned (.bool true) ∧ Below w.heap.size w w'

set_option maxHeartbeats 1600000 in
theorem eqStringS_any (A B : Option Addr) (n c d : Nat) (ds : List ByteArray) (L M : List Nat) (w : World) (hn : n = ds.length) (hm : n ≤ 9223372036854775807) (h1 : Sli strC w A ds L) (h2 : Sli strC w B ds M) :
    Calls Try.prog 61 #[.slice A n c, .slice B n d] w (TruePost w) := by
  have H1 := Lib.hid h1
  have H2 := Lib.hid h2
  have HN := Lib.hid hn
  clear h1 h2 hn
  have hne : ((n : Int) != n) = false := by simp
  go_enter Try.func61, Try.ntmps61
  go_wp2
  go_loopw [5] (fun i wr => ∃ (k : Nat), k ≤ n ∧ i = .int .i64 k ∧ Hid (∃ q, wr = w.drewN q)) (fun i _ => n - (intOf i).toNat)
  case atStart => exact ⟨0, Nat.zero_le _, rfl, 0, rfl⟩
  case round =>
    obtain ⟨k, hk, rfl, hq⟩ := hrel
    obtain ⟨q, rfl⟩ := hq.out
    by_cases hlt : k < n
    · have hkl : k < ds.length := by have := HN.out; omega
      obtain ⟨b, off, cs, Lk, rfl, _, _, hrep, hc⟩ := H1.out.at_ hkl
      obtain ⟨b', off', cs', Mk, rfl, _, _, hrep', hc'⟩ := H2.out.at_ hkl
      generalize ds[k] = x at *
      obtain ⟨rfl, _, _⟩ := hrep
      obtain ⟨rfl, _, _⟩ := hrep'
      have q0 := hc 0 _ rfl
      have p0 := hc' 0 _ rfl
      simp only [show strC.size = 1 from rfl, Nat.mul_one, Nat.add_zero] at q0 p0
      clear hc hc'
      have k0 : (0 : Int) ≤ k := by omega
      have k1 : (k : Int) < n := by omega
      go_wp2_with fail
      go_quiet (fail)
      go_wp2_with fail
      go_roundw
      case rel => exact ⟨k + 1, by omega, by go_num, by first | exact drew_ex _ _ _ | exact drew_ex1 _ _⟩
      case measure => simp [intOf]; omega
    · go_wp2
      go_ret
      exact ⟨rfl, below_of_drewN _ _ _⟩

set_option maxHeartbeats 1600000 in
theorem eqIntS_any (A B : Option Addr) (n c d : Nat) (ds : List Int) (L M : List Nat) (w : World) (hn : n = ds.length) (hm : n ≤ 9223372036854775807) (h1 : Sli intC w A ds L) (h2 : Sli intC w B ds M) :
    Calls Try.prog 21 #[.slice A n c, .slice B n d] w (TruePost w) := by
  have H1 := Lib.hid h1
  have H2 := Lib.hid h2
  have HN := Lib.hid hn
  clear h1 h2 hn
  have hne : ((n : Int) != n) = false := by simp
  go_enter Try.func21, Try.ntmps21
  go_wp2
  go_loopw [5] (fun i wr => ∃ (k : Nat), k ≤ n ∧ i = .int .i64 k ∧ Hid (∃ q, wr = w.drewN q)) (fun i _ => n - (intOf i).toNat)
  case atStart => exact ⟨0, Nat.zero_le _, rfl, 0, rfl⟩
  case round =>
    obtain ⟨k, hk, rfl, hq⟩ := hrel
    obtain ⟨q, rfl⟩ := hq.out
    by_cases hlt : k < n
    · have hkl : k < ds.length := by have := HN.out; omega
      obtain ⟨b, off, cs, Lk, rfl, _, _, hrep, hc⟩ := H1.out.at_ hkl
      obtain ⟨b', off', cs', Mk, rfl, _, _, hrep', hc'⟩ := H2.out.at_ hkl
      generalize ds[k] = x at *
      obtain ⟨rfl, _⟩ := hrep
      obtain ⟨rfl, _⟩ := hrep'
      have q0 := hc 0 _ rfl
      have p0 := hc' 0 _ rfl
      simp only [show intC.size = 1 from rfl, Nat.mul_one, Nat.add_zero] at q0 p0
      clear hc hc'
      have k0 : (0 : Int) ≤ k := by omega
      have k1 : (k : Int) < n := by omega
      go_wp2_with fail
      go_quiet (fail)
      go_wp2_with fail
      go_roundw
      case rel => exact ⟨k + 1, by omega, by go_num, by first | exact drew_ex _ _ _ | exact drew_ex1 _ _⟩
      case measure => simp [intOf]; omega
    · go_wp2
      go_ret
      exact ⟨rfl, below_of_drewN _ _ _⟩

set_option maxHeartbeats 1600000 in
theorem eqFact_any (cs ds : List Value) (x : FactD) (L M : List Nat) (w : World) (h1 : cFact.rep w cs x L) (h2 : cFact.rep w ds x M) :
    Calls Try.prog 52 #[.agg cs.toArray, .agg ds.toArray] w (TruePost w) := by
  obtain ⟨aA1, ac1, aL1, rfl, _ahL, at0, an1, am1, as1⟩ := h1
  obtain ⟨bA1, bc1, bL1, rfl, _bhL, bt0, bn1, bm1, bs1⟩ := h2
  unfold maxLen at am1 bm1
  have SA1 := Lib.hid as1
  have SB1 := Lib.hid bs1
  clear as1 bs1
  go_enter Try.func52, Try.ntmps52
  go_wp2_with fail
  refine (eqStringS_any aA1 bA1 _ ac1 bc1 x.args aL1 bL1 _ rfl (by omega) (SA1.out.below (by repeat (first | refine Below.setCell ?_ (by dsimp only; omega) _ | refine Below.alloc ?_ (by first | (simp; done) | (simp; omega) | omega) _ | exact Below.refl _ _))) (SB1.out.below (by repeat (first | refine Below.setCell ?_ (by dsimp only; omega) _ | refine Below.alloc ?_ (by first | (simp; done) | (simp; omega) | omega) _ | exact Below.refl _ _)))).mono ?_
  rintro e w1 ⟨rfl, hb1⟩
  have B1 : Hid (Below w.heap.size w w1) := Below.trans (by repeat (first | refine Below.setCell ?_ (by dsimp only; omega) _ | refine Below.alloc ?_ (by first | (simp; done) | (simp; omega) | omega) _ | exact Below.refl _ _)) (hb1.mono (by first | (simp; done) | (simp; omega) | omega))
  have K0 : Hid (Blk w1 w.heap.size 52 #[.string x.rel, .slice aA1 x.args.length ac1]) := Blk.later (Blk.alloc (Blk.new _ _ _) _) hb1
  have K1 : Hid (Blk w1 (w.heap.size + 1) 52 #[.string x.rel, .slice bA1 x.args.length bc1]) := Blk.later (Blk.new_at (by simp)) hb1
  have f0 := K0.out.at (i := 0) rfl
  have r0 := K1.out.at (i := 0) rfl
  have f1 := K0.out.at (i := 1) rfl
  have r1 := K1.out.at (i := 1) rfl
  clear hb1
  have hz1 := B1.out.size
  go_wp2_with fail
  go_ret
  exact ⟨rfl, (by repeat (first | refine Below.setCell ?_ (by dsimp only; omega) _ | refine Below.alloc ?_ (by first | (simp; done) | (simp; omega) | omega) _ | exact B1.out))⟩

set_option maxHeartbeats 1600000 in
theorem eqStep_any (cs ds : List Value) (x : StepD) (L M : List Nat) (w : World) (h1 : cStep.rep w cs x L) (h2 : cStep.rep w ds x M) :
    Calls Try.prog 36 #[.agg cs.toArray, .agg ds.toArray] w (TruePost w) := by
  obtain ⟨aA1, ac1, aL1, aA2, ac2, aL2, rfl, _ahL, at0, at1, an1, am1, as1, an2, am2, as2⟩ := h1
  obtain ⟨bA1, bc1, bL1, bA2, bc2, bL2, rfl, _bhL, bt0, bt1, bn1, bm1, bs1, bn2, bm2, bs2⟩ := h2
  unfold maxLen at am1 bm1 am2 bm2
  have SA1 := Lib.hid as1
  have SB1 := Lib.hid bs1
  clear as1 bs1
  have SA2 := Lib.hid as2
  have SB2 := Lib.hid bs2
  clear as2 bs2
  go_enter Try.func36, Try.ntmps36
  go_wp2_with fail
  refine (eqFact_any [.string x.fact.rel, .slice aA1 x.fact.args.length ac1] [.string x.fact.rel, .slice bA1 x.fact.args.length bc1] x.fact _ _ _ ⟨aA1, ac1, aL1, rfl, rfl, at0, an1, (by unfold maxLen; omega), SA1.out.below (by repeat (first | refine Below.setCell ?_ (by dsimp only; omega) _ | refine Below.alloc ?_ (by first | (simp; done) | (simp; omega) | omega) _ | exact Below.refl _ _))⟩ ⟨bA1, bc1, bL1, rfl, rfl, bt0, bn1, (by unfold maxLen; omega), SB1.out.below (by repeat (first | refine Below.setCell ?_ (by dsimp only; omega) _ | refine Below.alloc ?_ (by first | (simp; done) | (simp; omega) | omega) _ | exact Below.refl _ _))⟩).mono ?_
  rintro e w1 ⟨rfl, hb1⟩
  have B1 : Hid (Below w.heap.size w w1) := Below.trans (by repeat (first | refine Below.setCell ?_ (by dsimp only; omega) _ | refine Below.alloc ?_ (by first | (simp; done) | (simp; omega) | omega) _ | exact Below.refl _ _)) (hb1.mono (by first | (simp; done) | (simp; omega) | omega))
  have K0 : Hid (Blk w1 w.heap.size 54 #[.string x.fact.rel, .slice aA1 x.fact.args.length ac1, .string x.rule, .slice aA2 x.uses.length ac2]) := Blk.later (Blk.alloc (Blk.new _ _ _) _) hb1
  have K1 : Hid (Blk w1 (w.heap.size + 1) 54 #[.string x.fact.rel, .slice bA1 x.fact.args.length bc1, .string x.rule, .slice bA2 x.uses.length bc2]) := Blk.later (Blk.new_at (by simp)) hb1
  have f0 := K0.out.at (i := 0) rfl
  have r0 := K1.out.at (i := 0) rfl
  have f1 := K0.out.at (i := 1) rfl
  have r1 := K1.out.at (i := 1) rfl
  have f2 := K0.out.at (i := 2) rfl
  have r2 := K1.out.at (i := 2) rfl
  have f3 := K0.out.at (i := 3) rfl
  have r3 := K1.out.at (i := 3) rfl
  clear hb1
  have hz1 := B1.out.size
  go_wp2_with fail
  refine (eqIntS_any aA2 bA2 _ ac2 bc2 x.uses aL2 bL2 _ rfl (by omega) (SA2.out.below (by repeat (first | refine Below.setCell ?_ (by dsimp only; omega) _ | refine Below.alloc ?_ (by first | (simp; done) | (simp; omega) | omega) _ | exact B1.out))) (SB2.out.below (by repeat (first | refine Below.setCell ?_ (by dsimp only; omega) _ | refine Below.alloc ?_ (by first | (simp; done) | (simp; omega) | omega) _ | exact B1.out)))).mono ?_
  rintro e w2 ⟨rfl, hb2⟩
  have B2 : Hid (Below w.heap.size w w2) := Below.trans (by repeat (first | refine Below.setCell ?_ (by dsimp only; omega) _ | refine Below.alloc ?_ (by first | (simp; done) | (simp; omega) | omega) _ | exact B1.out)) (hb2.mono (by first | (simp; done) | (simp; omega) | omega))
  have K0 := Lib.hid (K0.out.later hb2)
  have K1 := Lib.hid (K1.out.later hb2)
  clear f0 r0 f1 r1 f2 r2 f3 r3
  have f0 := K0.out.at (i := 0) rfl
  have r0 := K1.out.at (i := 0) rfl
  have f1 := K0.out.at (i := 1) rfl
  have r1 := K1.out.at (i := 1) rfl
  have f2 := K0.out.at (i := 2) rfl
  have r2 := K1.out.at (i := 2) rfl
  have f3 := K0.out.at (i := 3) rfl
  have r3 := K1.out.at (i := 3) rfl
  clear hb2
  have hz2 := B2.out.size
  go_wp2_with fail
  go_ret
  exact ⟨rfl, (by repeat (first | refine Below.setCell ?_ (by dsimp only; omega) _ | refine Below.alloc ?_ (by first | (simp; done) | (simp; omega) | omega) _ | exact B2.out))⟩

set_option maxRecDepth 100000 in
set_option maxHeartbeats 1600000 in
theorem eqStepS_any (A B : Option Addr) (n c d : Nat) (ds : List StepD) (L M : List Nat) (w : World) (hn : n = ds.length) (hm : n ≤ 9223372036854775807) (h1 : Sli cStep w A ds L) (h2 : Sli cStep w B ds M) :
    Calls Try.prog 13 #[.slice A n c, .slice B n d] w (TruePost w) := by
  have H1 := Lib.hid h1
  have H2 := Lib.hid h2
  have HN := Lib.hid hn
  clear h1 h2 hn
  have hne : ((n : Int) != n) = false := by simp
  go_enter Try.func13, Try.ntmps13
  go_wp2
  go_loopw [5] (fun i wr => ∃ (k : Nat), k ≤ n ∧ i = .int .i64 k ∧ Hid (Below w.heap.size w wr)) (fun i _ => n - (intOf i).toNat)
  case atStart => exact ⟨0, Nat.zero_le _, rfl, Below.refl _ _⟩
  case round =>
    obtain ⟨k, hk, rfl, HB⟩ := hrel
    by_cases hlt : k < n
    · have hkl : k < ds.length := by have := HN.out; omega
      obtain ⟨b, off, cs, Lk, rfl, hbL, hLk, hrep, hc⟩ := H1.out.at_ hkl
      obtain ⟨b', off', cs', Mk, rfl, hbM, hMk, hrep', hc'⟩ := H2.out.at_ hkl
      have hbl : b < w.heap.size := H1.out.lt b hbL
      have hbl' : b' < w.heap.size := H2.out.lt b' hbM
      have HR := Lib.hid (cStep.keep hrep (keep_below HB.out (fun y m => H1.out.lt y (hLk y m))))
      have HR' := Lib.hid (cStep.keep hrep' (keep_below HB.out (fun y m => H2.out.lt y (hMk y m))))
      generalize ds[k] = x at *
      obtain ⟨aA1, ac1, aA2, ac2, rfl⟩ := cStep_cells hrep
      obtain ⟨bA1, bc1, bA2, bc2, rfl⟩ := cStep_cells hrep'
      have q0 : wr.cell? ⟨b, off + k * 4, none⟩ = _ := (HB.out.cell (p := ⟨b, off + (k * 4 + 0), none⟩) hbl).trans (hc 0 _ rfl)
      have p0 : wr.cell? ⟨b', off' + k * 4, none⟩ = _ := (HB.out.cell (p := ⟨b', off' + (k * 4 + 0), none⟩) hbl').trans (hc' 0 _ rfl)
      have q1 : wr.cell? ⟨b, off + k * 4 + 1, none⟩ = _ := (HB.out.cell (p := ⟨b, off + (k * 4 + 1), none⟩) hbl).trans (hc 1 _ rfl)
      have p1 : wr.cell? ⟨b', off' + k * 4 + 1, none⟩ = _ := (HB.out.cell (p := ⟨b', off' + (k * 4 + 1), none⟩) hbl').trans (hc' 1 _ rfl)
      have q2 : wr.cell? ⟨b, off + k * 4 + 2, none⟩ = _ := (HB.out.cell (p := ⟨b, off + (k * 4 + 2), none⟩) hbl).trans (hc 2 _ rfl)
      have p2 : wr.cell? ⟨b', off' + k * 4 + 2, none⟩ = _ := (HB.out.cell (p := ⟨b', off' + (k * 4 + 2), none⟩) hbl').trans (hc' 2 _ rfl)
      have q3 : wr.cell? ⟨b, off + k * 4 + 3, none⟩ = _ := (HB.out.cell (p := ⟨b, off + (k * 4 + 3), none⟩) hbl).trans (hc 3 _ rfl)
      have p3 : wr.cell? ⟨b', off' + k * 4 + 3, none⟩ = _ := (HB.out.cell (p := ⟨b', off' + (k * 4 + 3), none⟩) hbl').trans (hc' 3 _ rfl)
      clear hc hc' hrep hrep'
      have k0 : (0 : Int) ≤ k := by omega
      have k1 : (k : Int) < n := by omega
      go_wp2_with fail
      go_still_tail 8, (by kernel_rfl)
      change wpList _ _ _ _ _ wr.drew
      go_wp2_with (go_at_call 36; (refine (eqStep_any _ _ x Lk Mk wr.drew (cStep.keep HR.out (fun _ _ => rfl)) (cStep.keep HR'.out (fun _ _ => rfl))).mono ?_; rintro e w1 ⟨rfl, hb1⟩; have HB1 := Lib.hid (HB.out.drew.trans (hb1.mono HB.out.size)); clear hb1))
      go_roundw
      case rel => exact ⟨k + 1, by omega, by go_num, HB1.out⟩
      case measure => simp [intOf]; omega
    · go_wp2
      go_ret
      exact ⟨rfl, HB.out⟩

end Go.Proofs.Ytfmplnebdldpdaa
