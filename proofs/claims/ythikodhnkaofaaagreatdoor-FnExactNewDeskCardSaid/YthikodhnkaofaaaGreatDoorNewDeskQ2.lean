/- Texts of this proof, joined: Eq, MText, Mk, Mark. What each holds is said at its theorems. -/
import Derived.Test.YthikodhnkaofaaaGreatDoorProg
import Derived.Test.YthikodhnkaofaaaGreatDoorNewDeskQ1
import Derived.Outline
import Derived.WalkSpells
import Derived.StillTailTactics
import Derived.WalkLawsBesides
set_option linter.unusedSimpArgs false
set_option linter.unusedVariables false
namespace Go.Proofs.YthikodhnkaofaaaGreatDoor
section
open Go.RowKit

def ZLx (w : World) (e : Ending) (w' : World) : Prop := e = .returned (.bool true) ∧ Below w.heap.size w w'

set_option maxHeartbeats 1600000 in
theorem ZNv (A B : Option Addr) (n c d : Nat) (ds : List ByteArray) (L M : List Nat) (w : World) (hn : n = ds.length) (hm : n ≤ 9223372036854775807) (h1 : Sli ZsX w A ds L) (h2 : Sli ZsX w B ds M) :
    Calls Tryz.prog 117 #[.slice A n c, .slice B n d] w (ZLx w) := by
  have H1 := Lib.hid h1
  have H2 := Lib.hid h2
  have HN := Lib.hid hn
  clear h1 h2 hn
  have hne : ((n : Int) != n) = false := by simp
  go_enter Tryz.func117, Tryz.ntmps117
  go_wp2
  go_loopw [5] (fun i wr => ∃ (k : Nat), k ≤ n ∧ i = .int .i64 k ∧ Hid (∃ q, wr = w.drewN q)) (fun i _ => n - (intOf i).toNat)
  case atStart => exact ⟨0, Nat.zero_le _, rfl, 0, rfl⟩
  case round =>
    obtain ⟨k, hk, rfl, hq⟩ := hrel
    obtain ⟨q, rfl⟩ := hq.out
    by_cases hlt : k < n
    · have hkl : k < ds.length := by have := HN.out; omega
      obtain ⟨b, off, cs, Lk, rfl, _, _, hrep, hc⟩ := H1.out.at_ hkl
      obtain ⟨b', off', cs', Mk, rfl, _, _, hrep', hc'⟩ := H2.out.at_ hkl
      generalize ds[k] = x at *
      obtain ⟨rfl, _, _⟩ := hrep
      obtain ⟨rfl, _, _⟩ := hrep'
      have q0 := hc 0 _ rfl
      have p0 := hc' 0 _ rfl
      simp only [show ZsX.size = 1 from rfl, Nat.mul_one, Nat.add_zero] at q0 p0
      clear hc hc'
      have k0 : (0 : Int) ≤ k := by omega
      have k1 : (k : Int) < n := by omega
      go_wp2_with fail
      go_quiet (fail)
      go_wp2_with fail
      go_roundw
      case rel => exact ⟨k + 1, by omega, by go_num, by first | exact ZPQ _ _ _ | exact ZPr _ _⟩
      case measure => simp [intOf]; omega
    · go_wp2
      go_ret
      exact ⟨rfl, ZNn _ _ _⟩

set_option maxHeartbeats 1600000 in
theorem ZOi (A B : Option Addr) (n c d : Nat) (ds : List Int) (L M : List Nat) (w : World) (hn : n = ds.length) (hm : n ≤ 9223372036854775807) (h1 : Sli Zj7 w A ds L) (h2 : Sli Zj7 w B ds M) :
    Calls Tryz.prog 30 #[.slice A n c, .slice B n d] w (ZLx w) := by
  have H1 := Lib.hid h1
  have H2 := Lib.hid h2
  have HN := Lib.hid hn
  clear h1 h2 hn
  have hne : ((n : Int) != n) = false := by simp
  go_enter Tryz.func30, Tryz.ntmps30
  go_wp2
  go_loopw [5] (fun i wr => ∃ (k : Nat), k ≤ n ∧ i = .int .i64 k ∧ Hid (∃ q, wr = w.drewN q)) (fun i _ => n - (intOf i).toNat)
  case atStart => exact ⟨0, Nat.zero_le _, rfl, 0, rfl⟩
  case round =>
    obtain ⟨k, hk, rfl, hq⟩ := hrel
    obtain ⟨q, rfl⟩ := hq.out
    by_cases hlt : k < n
    · have hkl : k < ds.length := by have := HN.out; omega
      obtain ⟨b, off, cs, Lk, rfl, _, _, hrep, hc⟩ := H1.out.at_ hkl
      obtain ⟨b', off', cs', Mk, rfl, _, _, hrep', hc'⟩ := H2.out.at_ hkl
      generalize ds[k] = x at *
      obtain ⟨rfl, _⟩ := hrep
      obtain ⟨rfl, _⟩ := hrep'
      have q0 := hc 0 _ rfl
      have p0 := hc' 0 _ rfl
      simp only [show Zj7.size = 1 from rfl, Nat.mul_one, Nat.add_zero] at q0 p0
      clear hc hc'
      have k0 : (0 : Int) ≤ k := by omega
      have k1 : (k : Int) < n := by omega
      go_wp2_with fail
      go_quiet (fail)
      go_wp2_with fail
      go_roundw
      case rel => exact ⟨k + 1, by omega, by go_num, by first | exact ZPQ _ _ _ | exact ZPr _ _⟩
      case measure => simp [intOf]; omega
    · go_wp2
      go_ret
      exact ⟨rfl, ZNn _ _ _⟩

set_option maxHeartbeats 1600000 in
theorem ZNy (cs ds : List Value) (x : Za) (L M : List Nat) (w : World) (h1 : Yf.rep w cs x L) (h2 : Yf.rep w ds x M) :
    Calls Tryz.prog 70 #[.agg cs.toArray, .agg ds.toArray] w (ZLx w) := by
  obtain ⟨aA1, ac1, aL1, rfl, _ahL, at0, an1, am1, as1⟩ := h1
  obtain ⟨bA1, bc1, bL1, rfl, _bhL, bt0, bn1, bm1, bs1⟩ := h2
  unfold maxLen at am1 bm1
  have SA1 := Lib.hid as1
  have SB1 := Lib.hid bs1
  clear as1 bs1
  go_enter Tryz.func70, Tryz.ntmps70
  go_wp2_with fail
  refine (ZNv aA1 bA1 _ ac1 bc1 x.args aL1 bL1 _ rfl (by omega) (SA1.out.below (by repeat (first | refine Below.setCell ?_ (by dsimp only; omega) _ | refine Below.alloc ?_ (by first | (simp; done) | (simp; omega) | omega) _ | exact Below.refl _ _))) (SB1.out.below (by repeat (first | refine Below.setCell ?_ (by dsimp only; omega) _ | refine Below.alloc ?_ (by first | (simp; done) | (simp; omega) | omega) _ | exact Below.refl _ _)))).mono ?_
  rintro e w1 ⟨rfl, hb1⟩
  have B1 : Hid (Below w.heap.size w w1) := Below.trans (by repeat (first | refine Below.setCell ?_ (by dsimp only; omega) _ | refine Below.alloc ?_ (by first | (simp; done) | (simp; omega) | omega) _ | exact Below.refl _ _)) (hb1.mono (by first | (simp; done) | (simp; omega) | omega))
  have K0 : Hid (Blk w1 w.heap.size 98 #[.string x.rel, .slice aA1 x.args.length ac1]) := Blk.later (Blk.alloc (Blk.new _ _ _) _) hb1
  have K1 : Hid (Blk w1 (w.heap.size + 1) 98 #[.string x.rel, .slice bA1 x.args.length bc1]) := Blk.later (Blk.new_at (by simp)) hb1
  have f0 := K0.out.at (i := 0) rfl
  have r0 := K1.out.at (i := 0) rfl
  have f1 := K0.out.at (i := 1) rfl
  have r1 := K1.out.at (i := 1) rfl
  clear hb1
  have hz1 := B1.out.size
  go_wp2_with fail
  go_ret
  exact ⟨rfl, (by repeat (first | refine Below.setCell ?_ (by dsimp only; omega) _ | refine Below.alloc ?_ (by first | (simp; done) | (simp; omega) | omega) _ | exact B1.out))⟩

set_option maxRecDepth 100000 in
set_option maxHeartbeats 1600000 in
theorem ZNl (A B : Option Addr) (n c d : Nat) (ds : List Za) (L M : List Nat) (w : World) (hn : n = ds.length) (hm : n ≤ 9223372036854775807) (h1 : Sli Yf w A ds L) (h2 : Sli Yf w B ds M) :
    Calls Tryz.prog 33 #[.slice A n c, .slice B n d] w (ZLx w) := by
  have H1 := Lib.hid h1
  have H2 := Lib.hid h2
  have HN := Lib.hid hn
  clear h1 h2 hn
  have hne : ((n : Int) != n) = false := by simp
  go_enter Tryz.func33, Tryz.ntmps33
  go_wp2
  go_loopw [5] (fun i wr => ∃ (k : Nat), k ≤ n ∧ i = .int .i64 k ∧ Hid (Below w.heap.size w wr)) (fun i _ => n - (intOf i).toNat)
  case atStart => exact ⟨0, Nat.zero_le _, rfl, Below.refl _ _⟩
  case round =>
    obtain ⟨k, hk, rfl, HB⟩ := hrel
    by_cases hlt : k < n
    · have hkl : k < ds.length := by have := HN.out; omega
      obtain ⟨b, off, cs, Lk, rfl, hbL, hLk, hrep, hc⟩ := H1.out.at_ hkl
      obtain ⟨b', off', cs', Mk, rfl, hbM, hMk, hrep', hc'⟩ := H2.out.at_ hkl
      have hbl : b < w.heap.size := H1.out.lt b hbL
      have hbl' : b' < w.heap.size := H2.out.lt b' hbM
      have HR := Lib.hid (Yf.keep hrep (Qu HB.out (fun y m => H1.out.lt y (hLk y m))))
      have HR' := Lib.hid (Yf.keep hrep' (Qu HB.out (fun y m => H2.out.lt y (hMk y m))))
      generalize ds[k] = x at *
      obtain ⟨aA1, ac1, rfl⟩ := ZN2 hrep
      obtain ⟨bA1, bc1, rfl⟩ := ZN2 hrep'
      have q0 : wr.cell? ⟨b, off + k * 2, none⟩ = _ := (HB.out.cell (p := ⟨b, off + (k * 2 + 0), none⟩) hbl).trans (hc 0 _ rfl)
      have p0 : wr.cell? ⟨b', off' + k * 2, none⟩ = _ := (HB.out.cell (p := ⟨b', off' + (k * 2 + 0), none⟩) hbl').trans (hc' 0 _ rfl)
      have q1 : wr.cell? ⟨b, off + k * 2 + 1, none⟩ = _ := (HB.out.cell (p := ⟨b, off + (k * 2 + 1), none⟩) hbl).trans (hc 1 _ rfl)
      have p1 : wr.cell? ⟨b', off' + k * 2 + 1, none⟩ = _ := (HB.out.cell (p := ⟨b', off' + (k * 2 + 1), none⟩) hbl').trans (hc' 1 _ rfl)
      clear hc hc' hrep hrep'
      have k0 : (0 : Int) ≤ k := by omega
      have k1 : (k : Int) < n := by omega
      go_wp2_with fail
      go_still_tail 8, (by kernel_rfl)
      change wpList _ _ _ _ _ wr.drew
      go_wp2_with (go_at_call 70; (refine (ZNy _ _ x Lk Mk wr.drew (Yf.keep HR.out (fun _ _ => rfl)) (Yf.keep HR'.out (fun _ _ => rfl))).mono ?_; rintro e w1 ⟨rfl, hb1⟩; have HB1 := Lib.hid (HB.out.drew.trans (hb1.mono HB.out.size)); clear hb1))
      go_roundw
      case rel => exact ⟨k + 1, by omega, by go_num, HB1.out⟩
      case measure => simp [intOf]; omega
    · go_wp2
      go_ret
      exact ⟨rfl, HB.out⟩

set_option maxHeartbeats 1600000 in
theorem ZMN (cs ds : List Value) (x : Zo) (L M : List Nat) (w : World) (h1 : ZPl.rep w cs x L) (h2 : ZPl.rep w ds x M) :
    Calls Tryz.prog 114 #[.agg cs.toArray, .agg ds.toArray] w (ZLx w) := by
  obtain ⟨aA1, ac1, aL1, rfl, _ahL, at0, an1, am1, as1⟩ := h1
  obtain ⟨bA1, bc1, bL1, rfl, _bhL, bt0, bn1, bm1, bs1⟩ := h2
  unfold maxLen at am1 bm1
  have SA1 := Lib.hid as1
  have SB1 := Lib.hid bs1
  clear as1 bs1
  go_enter Tryz.func114, Tryz.ntmps114
  go_wp2_with fail
  refine (ZNv aA1 bA1 _ ac1 bc1 x.args aL1 bL1 _ rfl (by omega) (SA1.out.below (by repeat (first | refine Below.setCell ?_ (by dsimp only; omega) _ | refine Below.alloc ?_ (by first | (simp; done) | (simp; omega) | omega) _ | exact Below.refl _ _))) (SB1.out.below (by repeat (first | refine Below.setCell ?_ (by dsimp only; omega) _ | refine Below.alloc ?_ (by first | (simp; done) | (simp; omega) | omega) _ | exact Below.refl _ _)))).mono ?_
  rintro e w1 ⟨rfl, hb1⟩
  have B1 : Hid (Below w.heap.size w w1) := Below.trans (by repeat (first | refine Below.setCell ?_ (by dsimp only; omega) _ | refine Below.alloc ?_ (by first | (simp; done) | (simp; omega) | omega) _ | exact Below.refl _ _)) (hb1.mono (by first | (simp; done) | (simp; omega) | omega))
  have K0 : Hid (Blk w1 w.heap.size 56 #[.string x.rel, .slice aA1 x.args.length ac1]) := Blk.later (Blk.alloc (Blk.new _ _ _) _) hb1
  have K1 : Hid (Blk w1 (w.heap.size + 1) 56 #[.string x.rel, .slice bA1 x.args.length bc1]) := Blk.later (Blk.new_at (by simp)) hb1
  have f0 := K0.out.at (i := 0) rfl
  have r0 := K1.out.at (i := 0) rfl
  have f1 := K0.out.at (i := 1) rfl
  have r1 := K1.out.at (i := 1) rfl
  clear hb1
  have hz1 := B1.out.size
  go_wp2_with fail
  go_ret
  exact ⟨rfl, (by repeat (first | refine Below.setCell ?_ (by dsimp only; omega) _ | refine Below.alloc ?_ (by first | (simp; done) | (simp; omega) | omega) _ | exact B1.out))⟩

set_option maxHeartbeats 1600000 in
theorem ZPL (cs ds : List Value) (x : Zx) (L M : List Nat) (w : World) (h1 : ZDh.rep w cs x L) (h2 : ZDh.rep w ds x M) :
    Calls Tryz.prog 166 #[.agg cs.toArray, .agg ds.toArray] w (ZLx w) := by
  obtain ⟨rfl, _ahL, at0, at1⟩ := h1
  obtain ⟨rfl, _bhL, bt0, bt1⟩ := h2
  go_enter Tryz.func166, Tryz.ntmps166
  go_wp2_with fail
  go_ret
  exact ⟨rfl, (by repeat (first | refine Below.setCell ?_ (by dsimp only; omega) _ | refine Below.alloc ?_ (by first | (simp; done) | (simp; omega) | omega) _ | exact Below.refl _ _))⟩

set_option maxRecDepth 100000 in
set_option maxHeartbeats 1600000 in
theorem ZPv (A B : Option Addr) (n c d : Nat) (ds : List Zx) (L M : List Nat) (w : World) (hn : n = ds.length) (hm : n ≤ 9223372036854775807) (h1 : Sli ZDh w A ds L) (h2 : Sli ZDh w B ds M) :
    Calls Tryz.prog 158 #[.slice A n c, .slice B n d] w (ZLx w) := by
  have H1 := Lib.hid h1
  have H2 := Lib.hid h2
  have HN := Lib.hid hn
  clear h1 h2 hn
  have hne : ((n : Int) != n) = false := by simp
  go_enter Tryz.func158, Tryz.ntmps158
  go_wp2
  go_loopw [5] (fun i wr => ∃ (k : Nat), k ≤ n ∧ i = .int .i64 k ∧ Hid (Below w.heap.size w wr)) (fun i _ => n - (intOf i).toNat)
  case atStart => exact ⟨0, Nat.zero_le _, rfl, Below.refl _ _⟩
  case round =>
    obtain ⟨k, hk, rfl, HB⟩ := hrel
    by_cases hlt : k < n
    · have hkl : k < ds.length := by have := HN.out; omega
      obtain ⟨b, off, cs, Lk, rfl, hbL, hLk, hrep, hc⟩ := H1.out.at_ hkl
      obtain ⟨b', off', cs', Mk, rfl, hbM, hMk, hrep', hc'⟩ := H2.out.at_ hkl
      have hbl : b < w.heap.size := H1.out.lt b hbL
      have hbl' : b' < w.heap.size := H2.out.lt b' hbM
      have HR := Lib.hid (ZDh.keep hrep (Qu HB.out (fun y m => H1.out.lt y (hLk y m))))
      have HR' := Lib.hid (ZDh.keep hrep' (Qu HB.out (fun y m => H2.out.lt y (hMk y m))))
      generalize ds[k] = x at *
      obtain rfl := ZNY hrep
      obtain rfl := ZNY hrep'
      have q0 : wr.cell? ⟨b, off + k * 2, none⟩ = _ := (HB.out.cell (p := ⟨b, off + (k * 2 + 0), none⟩) hbl).trans (hc 0 _ rfl)
      have p0 : wr.cell? ⟨b', off' + k * 2, none⟩ = _ := (HB.out.cell (p := ⟨b', off' + (k * 2 + 0), none⟩) hbl').trans (hc' 0 _ rfl)
      have q1 : wr.cell? ⟨b, off + k * 2 + 1, none⟩ = _ := (HB.out.cell (p := ⟨b, off + (k * 2 + 1), none⟩) hbl).trans (hc 1 _ rfl)
      have p1 : wr.cell? ⟨b', off' + k * 2 + 1, none⟩ = _ := (HB.out.cell (p := ⟨b', off' + (k * 2 + 1), none⟩) hbl').trans (hc' 1 _ rfl)
      clear hc hc' hrep hrep'
      have k0 : (0 : Int) ≤ k := by omega
      have k1 : (k : Int) < n := by omega
      go_wp2_with fail
      go_still_tail 8, (by kernel_rfl)
      change wpList _ _ _ _ _ wr.drew
      go_wp2_with (go_at_call 166; (refine (ZPL _ _ x Lk Mk wr.drew (ZDh.keep HR.out (fun _ _ => rfl)) (ZDh.keep HR'.out (fun _ _ => rfl))).mono ?_; rintro e w1 ⟨rfl, hb1⟩; have HB1 := Lib.hid (HB.out.drew.trans (hb1.mono HB.out.size)); clear hb1))
      go_roundw
      case rel => exact ⟨k + 1, by omega, by go_num, HB1.out⟩
      case measure => simp [intOf]; omega
    · go_wp2
      go_ret
      exact ⟨rfl, HB.out⟩

set_option maxHeartbeats 1600000 in
theorem ZOp (cs ds : List Value) (x : Zu) (L M : List Nat) (w : World) (h1 : ZC9.rep w cs x L) (h2 : ZC9.rep w ds x M) :
    Calls Tryz.prog 115 #[.agg cs.toArray, .agg ds.toArray] w (ZLx w) := by
  obtain ⟨aA1, ac1, aL1, rfl, _ahL, at0, at1, at2, an1, am1, as1⟩ := h1
  obtain ⟨bA1, bc1, bL1, rfl, _bhL, bt0, bt1, bt2, bn1, bm1, bs1⟩ := h2
  unfold maxLen at am1 bm1
  have SA1 := Lib.hid as1
  have SB1 := Lib.hid bs1
  clear as1 bs1
  go_enter Tryz.func115, Tryz.ntmps115
  go_wp2_with fail
  refine (ZMN [.string x.pattern.rel, .slice aA1 x.pattern.args.length ac1] [.string x.pattern.rel, .slice bA1 x.pattern.args.length bc1] x.pattern _ _ _ ⟨aA1, ac1, aL1, rfl, rfl, at0, an1, (by unfold maxLen; omega), SA1.out.below (by repeat (first | refine Below.setCell ?_ (by dsimp only; omega) _ | refine Below.alloc ?_ (by first | (simp; done) | (simp; omega) | omega) _ | exact Below.refl _ _))⟩ ⟨bA1, bc1, bL1, rfl, rfl, bt0, bn1, (by unfold maxLen; omega), SB1.out.below (by repeat (first | refine Below.setCell ?_ (by dsimp only; omega) _ | refine Below.alloc ?_ (by first | (simp; done) | (simp; omega) | omega) _ | exact Below.refl _ _))⟩).mono ?_
  rintro e w1 ⟨rfl, hb1⟩
  have B1 : Hid (Below w.heap.size w w1) := Below.trans (by repeat (first | refine Below.setCell ?_ (by dsimp only; omega) _ | refine Below.alloc ?_ (by first | (simp; done) | (simp; omega) | omega) _ | exact Below.refl _ _)) (hb1.mono (by first | (simp; done) | (simp; omega) | omega))
  have K0 : Hid (Blk w1 w.heap.size 58 #[.int .i64 x.kind, .string x.pattern.rel, .slice aA1 x.pattern.args.length ac1, .string x.left, .string x.right]) := Blk.later (Blk.alloc (Blk.new _ _ _) _) hb1
  have K1 : Hid (Blk w1 (w.heap.size + 1) 58 #[.int .i64 x.kind, .string x.pattern.rel, .slice bA1 x.pattern.args.length bc1, .string x.left, .string x.right]) := Blk.later (Blk.new_at (by simp)) hb1
  have f0 := K0.out.at (i := 0) rfl
  have r0 := K1.out.at (i := 0) rfl
  have f1 := K0.out.at (i := 1) rfl
  have r1 := K1.out.at (i := 1) rfl
  have f2 := K0.out.at (i := 2) rfl
  have r2 := K1.out.at (i := 2) rfl
  have f3 := K0.out.at (i := 3) rfl
  have r3 := K1.out.at (i := 3) rfl
  have f4 := K0.out.at (i := 4) rfl
  have r4 := K1.out.at (i := 4) rfl
  clear hb1
  have hz1 := B1.out.size
  go_wp2_with fail
  go_ret
  exact ⟨rfl, (by repeat (first | refine Below.setCell ?_ (by dsimp only; omega) _ | refine Below.alloc ?_ (by first | (simp; done) | (simp; omega) | omega) _ | exact B1.out))⟩

set_option maxRecDepth 100000 in
set_option maxHeartbeats 1600000 in
theorem ZPu (A B : Option Addr) (n c d : Nat) (ds : List Zu) (L M : List Nat) (w : World) (hn : n = ds.length) (hm : n ≤ 9223372036854775807) (h1 : Sli ZC9 w A ds L) (h2 : Sli ZC9 w B ds M) :
    Calls Tryz.prog 112 #[.slice A n c, .slice B n d] w (ZLx w) := by
  have H1 := Lib.hid h1
  have H2 := Lib.hid h2
  have HN := Lib.hid hn
  clear h1 h2 hn
  have hne : ((n : Int) != n) = false := by simp
  go_enter Tryz.func112, Tryz.ntmps112
  go_wp2
  go_loopw [5] (fun i wr => ∃ (k : Nat), k ≤ n ∧ i = .int .i64 k ∧ Hid (Below w.heap.size w wr)) (fun i _ => n - (intOf i).toNat)
  case atStart => exact ⟨0, Nat.zero_le _, rfl, Below.refl _ _⟩
  case round =>
    obtain ⟨k, hk, rfl, HB⟩ := hrel
    by_cases hlt : k < n
    · have hkl : k < ds.length := by have := HN.out; omega
      obtain ⟨b, off, cs, Lk, rfl, hbL, hLk, hrep, hc⟩ := H1.out.at_ hkl
      obtain ⟨b', off', cs', Mk, rfl, hbM, hMk, hrep', hc'⟩ := H2.out.at_ hkl
      have hbl : b < w.heap.size := H1.out.lt b hbL
      have hbl' : b' < w.heap.size := H2.out.lt b' hbM
      have HR := Lib.hid (ZC9.keep hrep (Qu HB.out (fun y m => H1.out.lt y (hLk y m))))
      have HR' := Lib.hid (ZC9.keep hrep' (Qu HB.out (fun y m => H2.out.lt y (hMk y m))))
      generalize ds[k] = x at *
      obtain ⟨aA1, ac1, rfl⟩ := ZNZ hrep
      obtain ⟨bA1, bc1, rfl⟩ := ZNZ hrep'
      have q0 : wr.cell? ⟨b, off + k * 5, none⟩ = _ := (HB.out.cell (p := ⟨b, off + (k * 5 + 0), none⟩) hbl).trans (hc 0 _ rfl)
      have p0 : wr.cell? ⟨b', off' + k * 5, none⟩ = _ := (HB.out.cell (p := ⟨b', off' + (k * 5 + 0), none⟩) hbl').trans (hc' 0 _ rfl)
      have q1 : wr.cell? ⟨b, off + k * 5 + 1, none⟩ = _ := (HB.out.cell (p := ⟨b, off + (k * 5 + 1), none⟩) hbl).trans (hc 1 _ rfl)
      have p1 : wr.cell? ⟨b', off' + k * 5 + 1, none⟩ = _ := (HB.out.cell (p := ⟨b', off' + (k * 5 + 1), none⟩) hbl').trans (hc' 1 _ rfl)
      have q2 : wr.cell? ⟨b, off + k * 5 + 2, none⟩ = _ := (HB.out.cell (p := ⟨b, off + (k * 5 + 2), none⟩) hbl).trans (hc 2 _ rfl)
      have p2 : wr.cell? ⟨b', off' + k * 5 + 2, none⟩ = _ := (HB.out.cell (p := ⟨b', off' + (k * 5 + 2), none⟩) hbl').trans (hc' 2 _ rfl)
      have q3 : wr.cell? ⟨b, off + k * 5 + 3, none⟩ = _ := (HB.out.cell (p := ⟨b, off + (k * 5 + 3), none⟩) hbl).trans (hc 3 _ rfl)
      have p3 : wr.cell? ⟨b', off' + k * 5 + 3, none⟩ = _ := (HB.out.cell (p := ⟨b', off' + (k * 5 + 3), none⟩) hbl').trans (hc' 3 _ rfl)
      have q4 : wr.cell? ⟨b, off + k * 5 + 4, none⟩ = _ := (HB.out.cell (p := ⟨b, off + (k * 5 + 4), none⟩) hbl).trans (hc 4 _ rfl)
      have p4 : wr.cell? ⟨b', off' + k * 5 + 4, none⟩ = _ := (HB.out.cell (p := ⟨b', off' + (k * 5 + 4), none⟩) hbl').trans (hc' 4 _ rfl)
      clear hc hc' hrep hrep'
      have k0 : (0 : Int) ≤ k := by omega
      have k1 : (k : Int) < n := by omega
      go_wp2_with fail
      go_still_tail 8, (by kernel_rfl)
      change wpList _ _ _ _ _ wr.drew
      go_wp2_with (go_at_call 115; (refine (ZOp _ _ x Lk Mk wr.drew (ZC9.keep HR.out (fun _ _ => rfl)) (ZC9.keep HR'.out (fun _ _ => rfl))).mono ?_; rintro e w1 ⟨rfl, hb1⟩; have HB1 := Lib.hid (HB.out.drew.trans (hb1.mono HB.out.size)); clear hb1))
      go_roundw
      case rel => exact ⟨k + 1, by omega, by go_num, HB1.out⟩
      case measure => simp [intOf]; omega
    · go_wp2
      go_ret
      exact ⟨rfl, HB.out⟩

set_option maxHeartbeats 1600000 in
theorem ZPd (cs ds : List Value) (x : Zy) (L M : List Nat) (w : World) (h1 : ZxH.rep w cs x L) (h2 : ZxH.rep w ds x M) :
    Calls Tryz.prog 146 #[.agg cs.toArray, .agg ds.toArray] w (ZLx w) := by
  obtain ⟨aA1, ac1, aL1, rfl, _ahL, at0, an1, am1, as1⟩ := h1
  obtain ⟨bA1, bc1, bL1, rfl, _bhL, bt0, bn1, bm1, bs1⟩ := h2
  unfold maxLen at am1 bm1
  have SA1 := Lib.hid as1
  have SB1 := Lib.hid bs1
  clear as1 bs1
  go_enter Tryz.func146, Tryz.ntmps146
  go_wp2_with fail
  refine (ZMN [.string x.pattern.rel, .slice aA1 x.pattern.args.length ac1] [.string x.pattern.rel, .slice bA1 x.pattern.args.length bc1] x.pattern _ _ _ ⟨aA1, ac1, aL1, rfl, rfl, at0, an1, (by unfold maxLen; omega), SA1.out.below (by repeat (first | refine Below.setCell ?_ (by dsimp only; omega) _ | refine Below.alloc ?_ (by first | (simp; done) | (simp; omega) | omega) _ | exact Below.refl _ _))⟩ ⟨bA1, bc1, bL1, rfl, rfl, bt0, bn1, (by unfold maxLen; omega), SB1.out.below (by repeat (first | refine Below.setCell ?_ (by dsimp only; omega) _ | refine Below.alloc ?_ (by first | (simp; done) | (simp; omega) | omega) _ | exact Below.refl _ _))⟩).mono ?_
  rintro e w1 ⟨rfl, hb1⟩
  have B1 : Hid (Below w.heap.size w w1) := Below.trans (by repeat (first | refine Below.setCell ?_ (by dsimp only; omega) _ | refine Below.alloc ?_ (by first | (simp; done) | (simp; omega) | omega) _ | exact Below.refl _ _)) (hb1.mono (by first | (simp; done) | (simp; omega) | omega))
  have K0 : Hid (Blk w1 w.heap.size 126 #[.int .i64 x.kind, .string x.pattern.rel, .slice aA1 x.pattern.args.length ac1]) := Blk.later (Blk.alloc (Blk.new _ _ _) _) hb1
  have K1 : Hid (Blk w1 (w.heap.size + 1) 126 #[.int .i64 x.kind, .string x.pattern.rel, .slice bA1 x.pattern.args.length bc1]) := Blk.later (Blk.new_at (by simp)) hb1
  have f0 := K0.out.at (i := 0) rfl
  have r0 := K1.out.at (i := 0) rfl
  have f1 := K0.out.at (i := 1) rfl
  have r1 := K1.out.at (i := 1) rfl
  have f2 := K0.out.at (i := 2) rfl
  have r2 := K1.out.at (i := 2) rfl
  clear hb1
  have hz1 := B1.out.size
  go_wp2_with fail
  go_ret
  exact ⟨rfl, (by repeat (first | refine Below.setCell ?_ (by dsimp only; omega) _ | refine Below.alloc ?_ (by first | (simp; done) | (simp; omega) | omega) _ | exact B1.out))⟩

set_option maxRecDepth 100000 in
set_option maxHeartbeats 1600000 in
theorem ZOU (A B : Option Addr) (n c d : Nat) (ds : List Zy) (L M : List Nat) (w : World) (hn : n = ds.length) (hm : n ≤ 9223372036854775807) (h1 : Sli ZxH w A ds L) (h2 : Sli ZxH w B ds M) :
    Calls Tryz.prog 113 #[.slice A n c, .slice B n d] w (ZLx w) := by
  have H1 := Lib.hid h1
  have H2 := Lib.hid h2
  have HN := Lib.hid hn
  clear h1 h2 hn
  have hne : ((n : Int) != n) = false := by simp
  go_enter Tryz.func113, Tryz.ntmps113
  go_wp2
  go_loopw [5] (fun i wr => ∃ (k : Nat), k ≤ n ∧ i = .int .i64 k ∧ Hid (Below w.heap.size w wr)) (fun i _ => n - (intOf i).toNat)
  case atStart => exact ⟨0, Nat.zero_le _, rfl, Below.refl _ _⟩
  case round =>
    obtain ⟨k, hk, rfl, HB⟩ := hrel
    by_cases hlt : k < n
    · have hkl : k < ds.length := by have := HN.out; omega
      obtain ⟨b, off, cs, Lk, rfl, hbL, hLk, hrep, hc⟩ := H1.out.at_ hkl
      obtain ⟨b', off', cs', Mk, rfl, hbM, hMk, hrep', hc'⟩ := H2.out.at_ hkl
      have hbl : b < w.heap.size := H1.out.lt b hbL
      have hbl' : b' < w.heap.size := H2.out.lt b' hbM
      have HR := Lib.hid (ZxH.keep hrep (Qu HB.out (fun y m => H1.out.lt y (hLk y m))))
      have HR' := Lib.hid (ZxH.keep hrep' (Qu HB.out (fun y m => H2.out.lt y (hMk y m))))
      generalize ds[k] = x at *
      obtain ⟨aA1, ac1, rfl⟩ := ZNs hrep
      obtain ⟨bA1, bc1, rfl⟩ := ZNs hrep'
      have q0 : wr.cell? ⟨b, off + k * 3, none⟩ = _ := (HB.out.cell (p := ⟨b, off + (k * 3 + 0), none⟩) hbl).trans (hc 0 _ rfl)
      have p0 : wr.cell? ⟨b', off' + k * 3, none⟩ = _ := (HB.out.cell (p := ⟨b', off' + (k * 3 + 0), none⟩) hbl').trans (hc' 0 _ rfl)
      have q1 : wr.cell? ⟨b, off + k * 3 + 1, none⟩ = _ := (HB.out.cell (p := ⟨b, off + (k * 3 + 1), none⟩) hbl).trans (hc 1 _ rfl)
      have p1 : wr.cell? ⟨b', off' + k * 3 + 1, none⟩ = _ := (HB.out.cell (p := ⟨b', off' + (k * 3 + 1), none⟩) hbl').trans (hc' 1 _ rfl)
      have q2 : wr.cell? ⟨b, off + k * 3 + 2, none⟩ = _ := (HB.out.cell (p := ⟨b, off + (k * 3 + 2), none⟩) hbl).trans (hc 2 _ rfl)
      have p2 : wr.cell? ⟨b', off' + k * 3 + 2, none⟩ = _ := (HB.out.cell (p := ⟨b', off' + (k * 3 + 2), none⟩) hbl').trans (hc' 2 _ rfl)
      clear hc hc' hrep hrep'
      have k0 : (0 : Int) ≤ k := by omega
      have k1 : (k : Int) < n := by omega
      go_wp2_with fail
      go_still_tail 8, (by kernel_rfl)
      change wpList _ _ _ _ _ wr.drew
      go_wp2_with (go_at_call 146; (refine (ZPd _ _ x Lk Mk wr.drew (ZxH.keep HR.out (fun _ _ => rfl)) (ZxH.keep HR'.out (fun _ _ => rfl))).mono ?_; rintro e w1 ⟨rfl, hb1⟩; have HB1 := Lib.hid (HB.out.drew.trans (hb1.mono HB.out.size)); clear hb1))
      go_roundw
      case rel => exact ⟨k + 1, by omega, by go_num, HB1.out⟩
      case measure => simp [intOf]; omega
    · go_wp2
      go_ret
      exact ⟨rfl, HB.out⟩

set_option maxHeartbeats 1600000 in
theorem ZPM (cs ds : List Value) (x : Zf) (L M : List Nat) (w : World) (h1 : Zby.rep w cs x L) (h2 : Zby.rep w ds x M) :
    Calls Tryz.prog 64 #[.agg cs.toArray, .agg ds.toArray] w (ZLx w) := by
  obtain ⟨aA1, ac1, aL1, aA2, ac2, aL2, rfl, _ahL, at0, an1, am1, as1, an2, am2, as2⟩ := h1
  obtain ⟨bA1, bc1, bL1, bA2, bc2, bL2, rfl, _bhL, bt0, bn1, bm1, bs1, bn2, bm2, bs2⟩ := h2
  unfold maxLen at am1 bm1 am2 bm2
  have SA1 := Lib.hid as1
  have SB1 := Lib.hid bs1
  clear as1 bs1
  have SA2 := Lib.hid as2
  have SB2 := Lib.hid bs2
  clear as2 bs2
  go_enter Tryz.func64, Tryz.ntmps64
  go_wp2_with fail
  refine (ZPu aA1 bA1 _ ac1 bc1 x.cond aL1 bL1 _ rfl (by omega) (SA1.out.below (by repeat (first | refine Below.setCell ?_ (by dsimp only; omega) _ | refine Below.alloc ?_ (by first | (simp; done) | (simp; omega) | omega) _ | exact Below.refl _ _))) (SB1.out.below (by repeat (first | refine Below.setCell ?_ (by dsimp only; omega) _ | refine Below.alloc ?_ (by first | (simp; done) | (simp; omega) | omega) _ | exact Below.refl _ _)))).mono ?_
  rintro e w1 ⟨rfl, hb1⟩
  have B1 : Hid (Below w.heap.size w w1) := Below.trans (by repeat (first | refine Below.setCell ?_ (by dsimp only; omega) _ | refine Below.alloc ?_ (by first | (simp; done) | (simp; omega) | omega) _ | exact Below.refl _ _)) (hb1.mono (by first | (simp; done) | (simp; omega) | omega))
  have K0 : Hid (Blk w1 w.heap.size 65 #[.string x.name, .int .i64 x.priority, .slice aA1 x.cond.length ac1, .slice aA2 x.thn.length ac2]) := Blk.later (Blk.alloc (Blk.new _ _ _) _) hb1
  have K1 : Hid (Blk w1 (w.heap.size + 1) 65 #[.string x.name, .int .i64 x.priority, .slice bA1 x.cond.length bc1, .slice bA2 x.thn.length bc2]) := Blk.later (Blk.new_at (by simp)) hb1
  have f0 := K0.out.at (i := 0) rfl
  have r0 := K1.out.at (i := 0) rfl
  have f1 := K0.out.at (i := 1) rfl
  have r1 := K1.out.at (i := 1) rfl
  have f2 := K0.out.at (i := 2) rfl
  have r2 := K1.out.at (i := 2) rfl
  have f3 := K0.out.at (i := 3) rfl
  have r3 := K1.out.at (i := 3) rfl
  clear hb1
  have hz1 := B1.out.size
  go_wp2_with fail
  refine (ZOU aA2 bA2 _ ac2 bc2 x.thn aL2 bL2 _ rfl (by omega) (SA2.out.below (by repeat (first | refine Below.setCell ?_ (by dsimp only; omega) _ | refine Below.alloc ?_ (by first | (simp; done) | (simp; omega) | omega) _ | exact B1.out))) (SB2.out.below (by repeat (first | refine Below.setCell ?_ (by dsimp only; omega) _ | refine Below.alloc ?_ (by first | (simp; done) | (simp; omega) | omega) _ | exact B1.out)))).mono ?_
  rintro e w2 ⟨rfl, hb2⟩
  have B2 : Hid (Below w.heap.size w w2) := Below.trans (by repeat (first | refine Below.setCell ?_ (by dsimp only; omega) _ | refine Below.alloc ?_ (by first | (simp; done) | (simp; omega) | omega) _ | exact B1.out)) (hb2.mono (by first | (simp; done) | (simp; omega) | omega))
  have K0 := Lib.hid (K0.out.later hb2)
  have K1 := Lib.hid (K1.out.later hb2)
  clear f0 r0 f1 r1 f2 r2 f3 r3
  have f0 := K0.out.at (i := 0) rfl
  have r0 := K1.out.at (i := 0) rfl
  have f1 := K0.out.at (i := 1) rfl
  have r1 := K1.out.at (i := 1) rfl
  have f2 := K0.out.at (i := 2) rfl
  have r2 := K1.out.at (i := 2) rfl
  have f3 := K0.out.at (i := 3) rfl
  have r3 := K1.out.at (i := 3) rfl
  clear hb2
  have hz2 := B2.out.size
  go_wp2_with fail
  go_ret
  exact ⟨rfl, (by repeat (first | refine Below.setCell ?_ (by dsimp only; omega) _ | refine Below.alloc ?_ (by first | (simp; done) | (simp; omega) | omega) _ | exact B2.out))⟩

set_option maxRecDepth 100000 in
set_option maxHeartbeats 1600000 in
theorem ZN4 (A B : Option Addr) (n c d : Nat) (ds : List Zf) (L M : List Nat) (w : World) (hn : n = ds.length) (hm : n ≤ 9223372036854775807) (h1 : Sli Zby w A ds L) (h2 : Sli Zby w B ds M) :
    Calls Tryz.prog 26 #[.slice A n c, .slice B n d] w (ZLx w) := by
  have H1 := Lib.hid h1
  have H2 := Lib.hid h2
  have HN := Lib.hid hn
  clear h1 h2 hn
  have hne : ((n : Int) != n) = false := by simp
  go_enter Tryz.func26, Tryz.ntmps26
  go_wp2
  go_loopw [5] (fun i wr => ∃ (k : Nat), k ≤ n ∧ i = .int .i64 k ∧ Hid (Below w.heap.size w wr)) (fun i _ => n - (intOf i).toNat)
  case atStart => exact ⟨0, Nat.zero_le _, rfl, Below.refl _ _⟩
  case round =>
    obtain ⟨k, hk, rfl, HB⟩ := hrel
    by_cases hlt : k < n
    · have hkl : k < ds.length := by have := HN.out; omega
      obtain ⟨b, off, cs, Lk, rfl, hbL, hLk, hrep, hc⟩ := H1.out.at_ hkl
      obtain ⟨b', off', cs', Mk, rfl, hbM, hMk, hrep', hc'⟩ := H2.out.at_ hkl
      have hbl : b < w.heap.size := H1.out.lt b hbL
      have hbl' : b' < w.heap.size := H2.out.lt b' hbM
      have HR := Lib.hid (Zby.keep hrep (Qu HB.out (fun y m => H1.out.lt y (hLk y m))))
      have HR' := Lib.hid (Zby.keep hrep' (Qu HB.out (fun y m => H2.out.lt y (hMk y m))))
      generalize ds[k] = x at *
      obtain ⟨aA1, ac1, aA2, ac2, rfl⟩ := ZN0 hrep
      obtain ⟨bA1, bc1, bA2, bc2, rfl⟩ := ZN0 hrep'
      have q0 : wr.cell? ⟨b, off + k * 4, none⟩ = _ := (HB.out.cell (p := ⟨b, off + (k * 4 + 0), none⟩) hbl).trans (hc 0 _ rfl)
      have p0 : wr.cell? ⟨b', off' + k * 4, none⟩ = _ := (HB.out.cell (p := ⟨b', off' + (k * 4 + 0), none⟩) hbl').trans (hc' 0 _ rfl)
      have q1 : wr.cell? ⟨b, off + k * 4 + 1, none⟩ = _ := (HB.out.cell (p := ⟨b, off + (k * 4 + 1), none⟩) hbl).trans (hc 1 _ rfl)
      have p1 : wr.cell? ⟨b', off' + k * 4 + 1, none⟩ = _ := (HB.out.cell (p := ⟨b', off' + (k * 4 + 1), none⟩) hbl').trans (hc' 1 _ rfl)
      have q2 : wr.cell? ⟨b, off + k * 4 + 2, none⟩ = _ := (HB.out.cell (p := ⟨b, off + (k * 4 + 2), none⟩) hbl).trans (hc 2 _ rfl)
      have p2 : wr.cell? ⟨b', off' + k * 4 + 2, none⟩ = _ := (HB.out.cell (p := ⟨b', off' + (k * 4 + 2), none⟩) hbl').trans (hc' 2 _ rfl)
      have q3 : wr.cell? ⟨b, off + k * 4 + 3, none⟩ = _ := (HB.out.cell (p := ⟨b, off + (k * 4 + 3), none⟩) hbl).trans (hc 3 _ rfl)
      have p3 : wr.cell? ⟨b', off' + k * 4 + 3, none⟩ = _ := (HB.out.cell (p := ⟨b', off' + (k * 4 + 3), none⟩) hbl').trans (hc' 3 _ rfl)
      clear hc hc' hrep hrep'
      have k0 : (0 : Int) ≤ k := by omega
      have k1 : (k : Int) < n := by omega
      go_wp2_with fail
      go_still_tail 8, (by kernel_rfl)
      change wpList _ _ _ _ _ wr.drew
      go_wp2_with (go_at_call 64; (refine (ZPM _ _ x Lk Mk wr.drew (Zby.keep HR.out (fun _ _ => rfl)) (Zby.keep HR'.out (fun _ _ => rfl))).mono ?_; rintro e w1 ⟨rfl, hb1⟩; have HB1 := Lib.hid (HB.out.drew.trans (hb1.mono HB.out.size)); clear hb1))
      go_roundw
      case rel => exact ⟨k + 1, by omega, by go_num, HB1.out⟩
      case measure => simp [intOf]; omega
    · go_wp2
      go_ret
      exact ⟨rfl, HB.out⟩

set_option maxHeartbeats 1600000 in
theorem ZPm (cs ds : List Value) (x : Zw) (L M : List Nat) (w : World) (h1 : ZlR.rep w cs x L) (h2 : ZlR.rep w ds x M) :
    Calls Tryz.prog 147 #[.agg cs.toArray, .agg ds.toArray] w (ZLx w) := by
  obtain ⟨aA1, ac1, aL1, aA2, ac2, aL2, rfl, _ahL, an1, am1, as1, an2, am2, as2⟩ := h1
  obtain ⟨bA1, bc1, bL1, bA2, bc2, bL2, rfl, _bhL, bn1, bm1, bs1, bn2, bm2, bs2⟩ := h2
  unfold maxLen at am1 bm1 am2 bm2
  have SA1 := Lib.hid as1
  have SB1 := Lib.hid bs1
  clear as1 bs1
  have SA2 := Lib.hid as2
  have SB2 := Lib.hid bs2
  clear as2 bs2
  go_enter Tryz.func147, Tryz.ntmps147
  go_wp2_with fail
  refine (ZNl aA1 bA1 _ ac1 bc1 x.facts aL1 bL1 _ rfl (by omega) (SA1.out.below (by repeat (first | refine Below.setCell ?_ (by dsimp only; omega) _ | refine Below.alloc ?_ (by first | (simp; done) | (simp; omega) | omega) _ | exact Below.refl _ _))) (SB1.out.below (by repeat (first | refine Below.setCell ?_ (by dsimp only; omega) _ | refine Below.alloc ?_ (by first | (simp; done) | (simp; omega) | omega) _ | exact Below.refl _ _)))).mono ?_
  rintro e w1 ⟨rfl, hb1⟩
  have B1 : Hid (Below w.heap.size w w1) := Below.trans (by repeat (first | refine Below.setCell ?_ (by dsimp only; omega) _ | refine Below.alloc ?_ (by first | (simp; done) | (simp; omega) | omega) _ | exact Below.refl _ _)) (hb1.mono (by first | (simp; done) | (simp; omega) | omega))
  have K0 : Hid (Blk w1 w.heap.size 52 #[.slice aA1 x.facts.length ac1, .slice aA2 x.binding.length ac2]) := Blk.later (Blk.alloc (Blk.new _ _ _) _) hb1
  have K1 : Hid (Blk w1 (w.heap.size + 1) 52 #[.slice bA1 x.facts.length bc1, .slice bA2 x.binding.length bc2]) := Blk.later (Blk.new_at (by simp)) hb1
  have f0 := K0.out.at (i := 0) rfl
  have r0 := K1.out.at (i := 0) rfl
  have f1 := K0.out.at (i := 1) rfl
  have r1 := K1.out.at (i := 1) rfl
  clear hb1
  have hz1 := B1.out.size
  go_wp2_with fail
  refine (ZPv aA2 bA2 _ ac2 bc2 x.binding aL2 bL2 _ rfl (by omega) (SA2.out.below (by repeat (first | refine Below.setCell ?_ (by dsimp only; omega) _ | refine Below.alloc ?_ (by first | (simp; done) | (simp; omega) | omega) _ | exact B1.out))) (SB2.out.below (by repeat (first | refine Below.setCell ?_ (by dsimp only; omega) _ | refine Below.alloc ?_ (by first | (simp; done) | (simp; omega) | omega) _ | exact B1.out)))).mono ?_
  rintro e w2 ⟨rfl, hb2⟩
  have B2 : Hid (Below w.heap.size w w2) := Below.trans (by repeat (first | refine Below.setCell ?_ (by dsimp only; omega) _ | refine Below.alloc ?_ (by first | (simp; done) | (simp; omega) | omega) _ | exact B1.out)) (hb2.mono (by first | (simp; done) | (simp; omega) | omega))
  have K0 := Lib.hid (K0.out.later hb2)
  have K1 := Lib.hid (K1.out.later hb2)
  clear f0 r0 f1 r1
  have f0 := K0.out.at (i := 0) rfl
  have r0 := K1.out.at (i := 0) rfl
  have f1 := K0.out.at (i := 1) rfl
  have r1 := K1.out.at (i := 1) rfl
  clear hb2
  have hz2 := B2.out.size
  go_wp2_with fail
  go_ret
  exact ⟨rfl, (by repeat (first | refine Below.setCell ?_ (by dsimp only; omega) _ | refine Below.alloc ?_ (by first | (simp; done) | (simp; omega) | omega) _ | exact B2.out))⟩

set_option maxRecDepth 100000 in
set_option maxHeartbeats 1600000 in
theorem ZO3 (A B : Option Addr) (n c d : Nat) (ds : List Zw) (L M : List Nat) (w : World) (hn : n = ds.length) (hm : n ≤ 9223372036854775807) (h1 : Sli ZlR w A ds L) (h2 : Sli ZlR w B ds M) :
    Calls Tryz.prog 116 #[.slice A n c, .slice B n d] w (ZLx w) := by
  have H1 := Lib.hid h1
  have H2 := Lib.hid h2
  have HN := Lib.hid hn
  clear h1 h2 hn
  have hne : ((n : Int) != n) = false := by simp
  go_enter Tryz.func116, Tryz.ntmps116
  go_wp2
  go_loopw [5] (fun i wr => ∃ (k : Nat), k ≤ n ∧ i = .int .i64 k ∧ Hid (Below w.heap.size w wr)) (fun i _ => n - (intOf i).toNat)
  case atStart => exact ⟨0, Nat.zero_le _, rfl, Below.refl _ _⟩
  case round =>
    obtain ⟨k, hk, rfl, HB⟩ := hrel
    by_cases hlt : k < n
    · have hkl : k < ds.length := by have := HN.out; omega
      obtain ⟨b, off, cs, Lk, rfl, hbL, hLk, hrep, hc⟩ := H1.out.at_ hkl
      obtain ⟨b', off', cs', Mk, rfl, hbM, hMk, hrep', hc'⟩ := H2.out.at_ hkl
      have hbl : b < w.heap.size := H1.out.lt b hbL
      have hbl' : b' < w.heap.size := H2.out.lt b' hbM
      have HR := Lib.hid (ZlR.keep hrep (Qu HB.out (fun y m => H1.out.lt y (hLk y m))))
      have HR' := Lib.hid (ZlR.keep hrep' (Qu HB.out (fun y m => H2.out.lt y (hMk y m))))
      generalize ds[k] = x at *
      obtain ⟨aA1, ac1, aA2, ac2, rfl⟩ := ZNP hrep
      obtain ⟨bA1, bc1, bA2, bc2, rfl⟩ := ZNP hrep'
      have q0 : wr.cell? ⟨b, off + k * 2, none⟩ = _ := (HB.out.cell (p := ⟨b, off + (k * 2 + 0), none⟩) hbl).trans (hc 0 _ rfl)
      have p0 : wr.cell? ⟨b', off' + k * 2, none⟩ = _ := (HB.out.cell (p := ⟨b', off' + (k * 2 + 0), none⟩) hbl').trans (hc' 0 _ rfl)
      have q1 : wr.cell? ⟨b, off + k * 2 + 1, none⟩ = _ := (HB.out.cell (p := ⟨b, off + (k * 2 + 1), none⟩) hbl).trans (hc 1 _ rfl)
      have p1 : wr.cell? ⟨b', off' + k * 2 + 1, none⟩ = _ := (HB.out.cell (p := ⟨b', off' + (k * 2 + 1), none⟩) hbl').trans (hc' 1 _ rfl)
      clear hc hc' hrep hrep'
      have k0 : (0 : Int) ≤ k := by omega
      have k1 : (k : Int) < n := by omega
      go_wp2_with fail
      go_still_tail 8, (by kernel_rfl)
      change wpList _ _ _ _ _ wr.drew
      go_wp2_with (go_at_call 147; (refine (ZPm _ _ x Lk Mk wr.drew (ZlR.keep HR.out (fun _ _ => rfl)) (ZlR.keep HR'.out (fun _ _ => rfl))).mono ?_; rintro e w1 ⟨rfl, hb1⟩; have HB1 := Lib.hid (HB.out.drew.trans (hb1.mono HB.out.size)); clear hb1))
      go_roundw
      case rel => exact ⟨k + 1, by omega, by go_num, HB1.out⟩
      case measure => simp [intOf]; omega
    · go_wp2
      go_ret
      exact ⟨rfl, HB.out⟩

set_option maxHeartbeats 1600000 in
theorem ZPB (cs ds : List Value) (x : ZL4) (L M : List Nat) (w : World) (h1 : ZL7.rep w cs x L) (h2 : ZL7.rep w ds x M) :
    Calls Tryz.prog 68 #[.agg cs.toArray, .agg ds.toArray] w (ZLx w) := by
  obtain ⟨aA1, ac1, aL1, aA2, ac2, aL2, rfl, _ahL, at0, an1, am1, as1, an2, am2, as2⟩ := h1
  obtain ⟨bA1, bc1, bL1, bA2, bc2, bL2, rfl, _bhL, bt0, bn1, bm1, bs1, bn2, bm2, bs2⟩ := h2
  unfold maxLen at am1 bm1 am2 bm2
  have SA1 := Lib.hid as1
  have SB1 := Lib.hid bs1
  clear as1 bs1
  have SA2 := Lib.hid as2
  have SB2 := Lib.hid bs2
  clear as2 bs2
  go_enter Tryz.func68, Tryz.ntmps68
  go_wp2_with fail
  refine (ZMN [.string x.shape.rel, .slice aA1 x.shape.args.length ac1] [.string x.shape.rel, .slice bA1 x.shape.args.length bc1] x.shape _ _ _ ⟨aA1, ac1, aL1, rfl, rfl, at0, an1, (by unfold maxLen; omega), SA1.out.below (by repeat (first | refine Below.setCell ?_ (by dsimp only; omega) _ | refine Below.alloc ?_ (by first | (simp; done) | (simp; omega) | omega) _ | exact Below.refl _ _))⟩ ⟨bA1, bc1, bL1, rfl, rfl, bt0, bn1, (by unfold maxLen; omega), SB1.out.below (by repeat (first | refine Below.setCell ?_ (by dsimp only; omega) _ | refine Below.alloc ?_ (by first | (simp; done) | (simp; omega) | omega) _ | exact Below.refl _ _))⟩).mono ?_
  rintro e w1 ⟨rfl, hb1⟩
  have B1 : Hid (Below w.heap.size w w1) := Below.trans (by repeat (first | refine Below.setCell ?_ (by dsimp only; omega) _ | refine Below.alloc ?_ (by first | (simp; done) | (simp; omega) | omega) _ | exact Below.refl _ _)) (hb1.mono (by first | (simp; done) | (simp; omega) | omega))
  have K0 : Hid (Blk w1 w.heap.size 109 #[.string x.shape.rel, .slice aA1 x.shape.args.length ac1, .slice aA2 x.facts.length ac2]) := Blk.later (Blk.alloc (Blk.new _ _ _) _) hb1
  have K1 : Hid (Blk w1 (w.heap.size + 1) 109 #[.string x.shape.rel, .slice bA1 x.shape.args.length bc1, .slice bA2 x.facts.length bc2]) := Blk.later (Blk.new_at (by simp)) hb1
  have f0 := K0.out.at (i := 0) rfl
  have r0 := K1.out.at (i := 0) rfl
  have f1 := K0.out.at (i := 1) rfl
  have r1 := K1.out.at (i := 1) rfl
  have f2 := K0.out.at (i := 2) rfl
  have r2 := K1.out.at (i := 2) rfl
  clear hb1
  have hz1 := B1.out.size
  go_wp2_with fail
  refine (ZNl aA2 bA2 _ ac2 bc2 x.facts aL2 bL2 _ rfl (by omega) (SA2.out.below (by repeat (first | refine Below.setCell ?_ (by dsimp only; omega) _ | refine Below.alloc ?_ (by first | (simp; done) | (simp; omega) | omega) _ | exact B1.out))) (SB2.out.below (by repeat (first | refine Below.setCell ?_ (by dsimp only; omega) _ | refine Below.alloc ?_ (by first | (simp; done) | (simp; omega) | omega) _ | exact B1.out)))).mono ?_
  rintro e w2 ⟨rfl, hb2⟩
  have B2 : Hid (Below w.heap.size w w2) := Below.trans (by repeat (first | refine Below.setCell ?_ (by dsimp only; omega) _ | refine Below.alloc ?_ (by first | (simp; done) | (simp; omega) | omega) _ | exact B1.out)) (hb2.mono (by first | (simp; done) | (simp; omega) | omega))
  have K0 := Lib.hid (K0.out.later hb2)
  have K1 := Lib.hid (K1.out.later hb2)
  clear f0 r0 f1 r1 f2 r2
  have f0 := K0.out.at (i := 0) rfl
  have r0 := K1.out.at (i := 0) rfl
  have f1 := K0.out.at (i := 1) rfl
  have r1 := K1.out.at (i := 1) rfl
  have f2 := K0.out.at (i := 2) rfl
  have r2 := K1.out.at (i := 2) rfl
  clear hb2
  have hz2 := B2.out.size
  go_wp2_with fail
  go_ret
  exact ⟨rfl, (by repeat (first | refine Below.setCell ?_ (by dsimp only; omega) _ | refine Below.alloc ?_ (by first | (simp; done) | (simp; omega) | omega) _ | exact B2.out))⟩

set_option maxRecDepth 100000 in
set_option maxHeartbeats 1600000 in
theorem ZPe (A B : Option Addr) (n c d : Nat) (ds : List ZL4) (L M : List Nat) (w : World) (hn : n = ds.length) (hm : n ≤ 9223372036854775807) (h1 : Sli ZL7 w A ds L) (h2 : Sli ZL7 w B ds M) :
    Calls Tryz.prog 31 #[.slice A n c, .slice B n d] w (ZLx w) := by
  have H1 := Lib.hid h1
  have H2 := Lib.hid h2
  have HN := Lib.hid hn
  clear h1 h2 hn
  have hne : ((n : Int) != n) = false := by simp
  go_enter Tryz.func31, Tryz.ntmps31
  go_wp2
  go_loopw [5] (fun i wr => ∃ (k : Nat), k ≤ n ∧ i = .int .i64 k ∧ Hid (Below w.heap.size w wr)) (fun i _ => n - (intOf i).toNat)
  case atStart => exact ⟨0, Nat.zero_le _, rfl, Below.refl _ _⟩
  case round =>
    obtain ⟨k, hk, rfl, HB⟩ := hrel
    by_cases hlt : k < n
    · have hkl : k < ds.length := by have := HN.out; omega
      obtain ⟨b, off, cs, Lk, rfl, hbL, hLk, hrep, hc⟩ := H1.out.at_ hkl
      obtain ⟨b', off', cs', Mk, rfl, hbM, hMk, hrep', hc'⟩ := H2.out.at_ hkl
      have hbl : b < w.heap.size := H1.out.lt b hbL
      have hbl' : b' < w.heap.size := H2.out.lt b' hbM
      have HR := Lib.hid (ZL7.keep hrep (Qu HB.out (fun y m => H1.out.lt y (hLk y m))))
      have HR' := Lib.hid (ZL7.keep hrep' (Qu HB.out (fun y m => H2.out.lt y (hMk y m))))
      generalize ds[k] = x at *
      obtain ⟨aA1, ac1, aA2, ac2, rfl⟩ := ZNL hrep
      obtain ⟨bA1, bc1, bA2, bc2, rfl⟩ := ZNL hrep'
      have q0 : wr.cell? ⟨b, off + k * 3, none⟩ = _ := (HB.out.cell (p := ⟨b, off + (k * 3 + 0), none⟩) hbl).trans (hc 0 _ rfl)
      have p0 : wr.cell? ⟨b', off' + k * 3, none⟩ = _ := (HB.out.cell (p := ⟨b', off' + (k * 3 + 0), none⟩) hbl').trans (hc' 0 _ rfl)
      have q1 : wr.cell? ⟨b, off + k * 3 + 1, none⟩ = _ := (HB.out.cell (p := ⟨b, off + (k * 3 + 1), none⟩) hbl).trans (hc 1 _ rfl)
      have p1 : wr.cell? ⟨b', off' + k * 3 + 1, none⟩ = _ := (HB.out.cell (p := ⟨b', off' + (k * 3 + 1), none⟩) hbl').trans (hc' 1 _ rfl)
      have q2 : wr.cell? ⟨b, off + k * 3 + 2, none⟩ = _ := (HB.out.cell (p := ⟨b, off + (k * 3 + 2), none⟩) hbl).trans (hc 2 _ rfl)
      have p2 : wr.cell? ⟨b', off' + k * 3 + 2, none⟩ = _ := (HB.out.cell (p := ⟨b', off' + (k * 3 + 2), none⟩) hbl').trans (hc' 2 _ rfl)
      clear hc hc' hrep hrep'
      have k0 : (0 : Int) ≤ k := by omega
      have k1 : (k : Int) < n := by omega
      go_wp2_with fail
      go_still_tail 8, (by kernel_rfl)
      change wpList _ _ _ _ _ wr.drew
      go_wp2_with (go_at_call 68; (refine (ZPB _ _ x Lk Mk wr.drew (ZL7.keep HR.out (fun _ _ => rfl)) (ZL7.keep HR'.out (fun _ _ => rfl))).mono ?_; rintro e w1 ⟨rfl, hb1⟩; have HB1 := Lib.hid (HB.out.drew.trans (hb1.mono HB.out.size)); clear hb1))
      go_roundw
      case rel => exact ⟨k + 1, by omega, by go_num, HB1.out⟩
      case measure => simp [intOf]; omega
    · go_wp2
      go_ret
      exact ⟨rfl, HB.out⟩

set_option maxHeartbeats 1600000 in
theorem ZPH (cs ds : List Value) (x : ZMe) (L M : List Nat) (w : World) (h1 : ZMg.rep w cs x L) (h2 : ZMg.rep w ds x M) :
    Calls Tryz.prog 69 #[.agg cs.toArray, .agg ds.toArray] w (ZLx w) := by
  obtain ⟨aA1, ac1, aL1, aA2, ac2, aL2, rfl, _ahL, at0, at1, at2, an1, am1, as1, an2, am2, as2⟩ := h1
  obtain ⟨bA1, bc1, bL1, bA2, bc2, bL2, rfl, _bhL, bt0, bt1, bt2, bn1, bm1, bs1, bn2, bm2, bs2⟩ := h2
  unfold maxLen at am1 bm1 am2 bm2
  have SA1 := Lib.hid as1
  have SB1 := Lib.hid bs1
  clear as1 bs1
  have SA2 := Lib.hid as2
  have SB2 := Lib.hid bs2
  clear as2 bs2
  go_enter Tryz.func69, Tryz.ntmps69
  go_wp2_with fail
  refine (ZOp [.int .i64 x.cond.kind, .string x.cond.pattern.rel, .slice aA1 x.cond.pattern.args.length ac1, .string x.cond.left, .string x.cond.right] [.int .i64 x.cond.kind, .string x.cond.pattern.rel, .slice bA1 x.cond.pattern.args.length bc1, .string x.cond.left, .string x.cond.right] x.cond _ _ _ ⟨aA1, ac1, aL1, rfl, rfl, at0, at1, at2, an1, (by unfold maxLen; omega), SA1.out.below (by repeat (first | refine Below.setCell ?_ (by dsimp only; omega) _ | refine Below.alloc ?_ (by first | (simp; done) | (simp; omega) | omega) _ | exact Below.refl _ _))⟩ ⟨bA1, bc1, bL1, rfl, rfl, bt0, bt1, bt2, bn1, (by unfold maxLen; omega), SB1.out.below (by repeat (first | refine Below.setCell ?_ (by dsimp only; omega) _ | refine Below.alloc ?_ (by first | (simp; done) | (simp; omega) | omega) _ | exact Below.refl _ _))⟩).mono ?_
  rintro e w1 ⟨rfl, hb1⟩
  have B1 : Hid (Below w.heap.size w w1) := Below.trans (by repeat (first | refine Below.setCell ?_ (by dsimp only; omega) _ | refine Below.alloc ?_ (by first | (simp; done) | (simp; omega) | omega) _ | exact Below.refl _ _)) (hb1.mono (by first | (simp; done) | (simp; omega) | omega))
  have K0 : Hid (Blk w1 w.heap.size 60 #[.int .i64 x.parent, .int .i64 x.cond.kind, .string x.cond.pattern.rel, .slice aA1 x.cond.pattern.args.length ac1, .string x.cond.left, .string x.cond.right, .int .i64 x.alpha, .slice aA2 x.tokens.length ac2]) := Blk.later (Blk.alloc (Blk.new _ _ _) _) hb1
  have K1 : Hid (Blk w1 (w.heap.size + 1) 60 #[.int .i64 x.parent, .int .i64 x.cond.kind, .string x.cond.pattern.rel, .slice bA1 x.cond.pattern.args.length bc1, .string x.cond.left, .string x.cond.right, .int .i64 x.alpha, .slice bA2 x.tokens.length bc2]) := Blk.later (Blk.new_at (by simp)) hb1
  have f0 := K0.out.at (i := 0) rfl
  have r0 := K1.out.at (i := 0) rfl
  have f1 := K0.out.at (i := 1) rfl
  have r1 := K1.out.at (i := 1) rfl
  have f2 := K0.out.at (i := 2) rfl
  have r2 := K1.out.at (i := 2) rfl
  have f3 := K0.out.at (i := 3) rfl
  have r3 := K1.out.at (i := 3) rfl
  have f4 := K0.out.at (i := 4) rfl
  have r4 := K1.out.at (i := 4) rfl
  have f5 := K0.out.at (i := 5) rfl
  have r5 := K1.out.at (i := 5) rfl
  have f6 := K0.out.at (i := 6) rfl
  have r6 := K1.out.at (i := 6) rfl
  have f7 := K0.out.at (i := 7) rfl
  have r7 := K1.out.at (i := 7) rfl
  clear hb1
  have hz1 := B1.out.size
  go_wp2_with fail
  refine (ZO3 aA2 bA2 _ ac2 bc2 x.tokens aL2 bL2 _ rfl (by omega) (SA2.out.below (by repeat (first | refine Below.setCell ?_ (by dsimp only; omega) _ | refine Below.alloc ?_ (by first | (simp; done) | (simp; omega) | omega) _ | exact B1.out))) (SB2.out.below (by repeat (first | refine Below.setCell ?_ (by dsimp only; omega) _ | refine Below.alloc ?_ (by first | (simp; done) | (simp; omega) | omega) _ | exact B1.out)))).mono ?_
  rintro e w2 ⟨rfl, hb2⟩
  have B2 : Hid (Below w.heap.size w w2) := Below.trans (by repeat (first | refine Below.setCell ?_ (by dsimp only; omega) _ | refine Below.alloc ?_ (by first | (simp; done) | (simp; omega) | omega) _ | exact B1.out)) (hb2.mono (by first | (simp; done) | (simp; omega) | omega))
  have K0 := Lib.hid (K0.out.later hb2)
  have K1 := Lib.hid (K1.out.later hb2)
  clear f0 r0 f1 r1 f2 r2 f3 r3 f4 r4 f5 r5 f6 r6 f7 r7
  have f0 := K0.out.at (i := 0) rfl
  have r0 := K1.out.at (i := 0) rfl
  have f1 := K0.out.at (i := 1) rfl
  have r1 := K1.out.at (i := 1) rfl
  have f2 := K0.out.at (i := 2) rfl
  have r2 := K1.out.at (i := 2) rfl
  have f3 := K0.out.at (i := 3) rfl
  have r3 := K1.out.at (i := 3) rfl
  have f4 := K0.out.at (i := 4) rfl
  have r4 := K1.out.at (i := 4) rfl
  have f5 := K0.out.at (i := 5) rfl
  have r5 := K1.out.at (i := 5) rfl
  have f6 := K0.out.at (i := 6) rfl
  have r6 := K1.out.at (i := 6) rfl
  have f7 := K0.out.at (i := 7) rfl
  have r7 := K1.out.at (i := 7) rfl
  clear hb2
  have hz2 := B2.out.size
  go_wp2_with fail
  go_ret
  exact ⟨rfl, (by repeat (first | refine Below.setCell ?_ (by dsimp only; omega) _ | refine Below.alloc ?_ (by first | (simp; done) | (simp; omega) | omega) _ | exact B2.out))⟩

set_option maxRecDepth 100000 in
set_option maxHeartbeats 1600000 in
theorem ZPA (A B : Option Addr) (n c d : Nat) (ds : List ZMe) (L M : List Nat) (w : World) (hn : n = ds.length) (hm : n ≤ 9223372036854775807) (h1 : Sli ZMg w A ds L) (h2 : Sli ZMg w B ds M) :
    Calls Tryz.prog 32 #[.slice A n c, .slice B n d] w (ZLx w) := by
  have H1 := Lib.hid h1
  have H2 := Lib.hid h2
  have HN := Lib.hid hn
  clear h1 h2 hn
  have hne : ((n : Int) != n) = false := by simp
  go_enter Tryz.func32, Tryz.ntmps32
  go_wp2
  go_loopw [5] (fun i wr => ∃ (k : Nat), k ≤ n ∧ i = .int .i64 k ∧ Hid (Below w.heap.size w wr)) (fun i _ => n - (intOf i).toNat)
  case atStart => exact ⟨0, Nat.zero_le _, rfl, Below.refl _ _⟩
  case round =>
    obtain ⟨k, hk, rfl, HB⟩ := hrel
    by_cases hlt : k < n
    · have hkl : k < ds.length := by have := HN.out; omega
      obtain ⟨b, off, cs, Lk, rfl, hbL, hLk, hrep, hc⟩ := H1.out.at_ hkl
      obtain ⟨b', off', cs', Mk, rfl, hbM, hMk, hrep', hc'⟩ := H2.out.at_ hkl
      have hbl : b < w.heap.size := H1.out.lt b hbL
      have hbl' : b' < w.heap.size := H2.out.lt b' hbM
      have HR := Lib.hid (ZMg.keep hrep (Qu HB.out (fun y m => H1.out.lt y (hLk y m))))
      have HR' := Lib.hid (ZMg.keep hrep' (Qu HB.out (fun y m => H2.out.lt y (hMk y m))))
      generalize ds[k] = x at *
      obtain ⟨aA1, ac1, aA2, ac2, rfl⟩ := ZN3 hrep
      obtain ⟨bA1, bc1, bA2, bc2, rfl⟩ := ZN3 hrep'
      have q0 : wr.cell? ⟨b, off + k * 8, none⟩ = _ := (HB.out.cell (p := ⟨b, off + (k * 8 + 0), none⟩) hbl).trans (hc 0 _ rfl)
      have p0 : wr.cell? ⟨b', off' + k * 8, none⟩ = _ := (HB.out.cell (p := ⟨b', off' + (k * 8 + 0), none⟩) hbl').trans (hc' 0 _ rfl)
      have q1 : wr.cell? ⟨b, off + k * 8 + 1, none⟩ = _ := (HB.out.cell (p := ⟨b, off + (k * 8 + 1), none⟩) hbl).trans (hc 1 _ rfl)
      have p1 : wr.cell? ⟨b', off' + k * 8 + 1, none⟩ = _ := (HB.out.cell (p := ⟨b', off' + (k * 8 + 1), none⟩) hbl').trans (hc' 1 _ rfl)
      have q2 : wr.cell? ⟨b, off + k * 8 + 2, none⟩ = _ := (HB.out.cell (p := ⟨b, off + (k * 8 + 2), none⟩) hbl).trans (hc 2 _ rfl)
      have p2 : wr.cell? ⟨b', off' + k * 8 + 2, none⟩ = _ := (HB.out.cell (p := ⟨b', off' + (k * 8 + 2), none⟩) hbl').trans (hc' 2 _ rfl)
      have q3 : wr.cell? ⟨b, off + k * 8 + 3, none⟩ = _ := (HB.out.cell (p := ⟨b, off + (k * 8 + 3), none⟩) hbl).trans (hc 3 _ rfl)
      have p3 : wr.cell? ⟨b', off' + k * 8 + 3, none⟩ = _ := (HB.out.cell (p := ⟨b', off' + (k * 8 + 3), none⟩) hbl').trans (hc' 3 _ rfl)
      have q4 : wr.cell? ⟨b, off + k * 8 + 4, none⟩ = _ := (HB.out.cell (p := ⟨b, off + (k * 8 + 4), none⟩) hbl).trans (hc 4 _ rfl)
      have p4 : wr.cell? ⟨b', off' + k * 8 + 4, none⟩ = _ := (HB.out.cell (p := ⟨b', off' + (k * 8 + 4), none⟩) hbl').trans (hc' 4 _ rfl)
      have q5 : wr.cell? ⟨b, off + k * 8 + 5, none⟩ = _ := (HB.out.cell (p := ⟨b, off + (k * 8 + 5), none⟩) hbl).trans (hc 5 _ rfl)
      have p5 : wr.cell? ⟨b', off' + k * 8 + 5, none⟩ = _ := (HB.out.cell (p := ⟨b', off' + (k * 8 + 5), none⟩) hbl').trans (hc' 5 _ rfl)
      have q6 : wr.cell? ⟨b, off + k * 8 + 6, none⟩ = _ := (HB.out.cell (p := ⟨b, off + (k * 8 + 6), none⟩) hbl).trans (hc 6 _ rfl)
      have p6 : wr.cell? ⟨b', off' + k * 8 + 6, none⟩ = _ := (HB.out.cell (p := ⟨b', off' + (k * 8 + 6), none⟩) hbl').trans (hc' 6 _ rfl)
      have q7 : wr.cell? ⟨b, off + k * 8 + 7, none⟩ = _ := (HB.out.cell (p := ⟨b, off + (k * 8 + 7), none⟩) hbl).trans (hc 7 _ rfl)
      have p7 : wr.cell? ⟨b', off' + k * 8 + 7, none⟩ = _ := (HB.out.cell (p := ⟨b', off' + (k * 8 + 7), none⟩) hbl').trans (hc' 7 _ rfl)
      clear hc hc' hrep hrep'
      have k0 : (0 : Int) ≤ k := by omega
      have k1 : (k : Int) < n := by omega
      go_wp2_with fail
      go_still_tail 8, (by kernel_rfl)
      change wpList _ _ _ _ _ wr.drew
      go_wp2_with (go_at_call 69; (refine (ZPH _ _ x Lk Mk wr.drew (ZMg.keep HR.out (fun _ _ => rfl)) (ZMg.keep HR'.out (fun _ _ => rfl))).mono ?_; rintro e w1 ⟨rfl, hb1⟩; have HB1 := Lib.hid (HB.out.drew.trans (hb1.mono HB.out.size)); clear hb1))
      go_roundw
      case rel => exact ⟨k + 1, by omega, by go_num, HB1.out⟩
      case measure => simp [intOf]; omega
    · go_wp2
      go_ret
      exact ⟨rfl, HB.out⟩

set_option maxHeartbeats 1600000 in
theorem ZOX (cs ds : List Value) (x : ZMb) (L M : List Nat) (w : World) (h1 : ZPp.rep w cs x L) (h2 : ZPp.rep w ds x M) :
    Calls Tryz.prog 14 #[.agg cs.toArray, .agg ds.toArray] w (ZLx w) := by
  obtain ⟨aA1, ac1, aL1, aA2, ac2, aL2, aA3, ac3, aL3, aA4, ac4, aL4, aA5, ac5, aL5, rfl, _ahL, an1, am1, as1, an2, am2, as2, an3, am3, as3, an4, am4, as4, an5, am5, as5⟩ := h1
  obtain ⟨bA1, bc1, bL1, bA2, bc2, bL2, bA3, bc3, bL3, bA4, bc4, bL4, bA5, bc5, bL5, rfl, _bhL, bn1, bm1, bs1, bn2, bm2, bs2, bn3, bm3, bs3, bn4, bm4, bs4, bn5, bm5, bs5⟩ := h2
  unfold maxLen at am1 bm1 am2 bm2 am3 bm3 am4 bm4 am5 bm5
  have SA1 := Lib.hid as1
  have SB1 := Lib.hid bs1
  clear as1 bs1
  have SA2 := Lib.hid as2
  have SB2 := Lib.hid bs2
  clear as2 bs2
  have SA3 := Lib.hid as3
  have SB3 := Lib.hid bs3
  clear as3 bs3
  have SA4 := Lib.hid as4
  have SB4 := Lib.hid bs4
  clear as4 bs4
  have SA5 := Lib.hid as5
  have SB5 := Lib.hid bs5
  clear as5 bs5
  go_enter Tryz.func14, Tryz.ntmps14
  go_wp2_with fail
  refine (ZN4 aA1 bA1 _ ac1 bc1 x.rules aL1 bL1 _ rfl (by omega) (SA1.out.below (by repeat (first | refine Below.setCell ?_ (by dsimp only; omega) _ | refine Below.alloc ?_ (by first | (simp; done) | (simp; omega) | omega) _ | exact Below.refl _ _))) (SB1.out.below (by repeat (first | refine Below.setCell ?_ (by dsimp only; omega) _ | refine Below.alloc ?_ (by first | (simp; done) | (simp; omega) | omega) _ | exact Below.refl _ _)))).mono ?_
  rintro e w1 ⟨rfl, hb1⟩
  have B1 : Hid (Below w.heap.size w w1) := Below.trans (by repeat (first | refine Below.setCell ?_ (by dsimp only; omega) _ | refine Below.alloc ?_ (by first | (simp; done) | (simp; omega) | omega) _ | exact Below.refl _ _)) (hb1.mono (by first | (simp; done) | (simp; omega) | omega))
  have K0 : Hid (Blk w1 w.heap.size 33 #[.slice aA1 x.rules.length ac1, .slice aA2 x.ends.length ac2, .slice aA3 x.alphas.length ac3, .slice aA4 x.nodes.length ac4, .slice aA5 x.facts.length ac5, .int .i64 x.tries]) := Blk.later (Blk.alloc (Blk.new _ _ _) _) hb1
  have K1 : Hid (Blk w1 (w.heap.size + 1) 33 #[.slice bA1 x.rules.length bc1, .slice bA2 x.ends.length bc2, .slice bA3 x.alphas.length bc3, .slice bA4 x.nodes.length bc4, .slice bA5 x.facts.length bc5, .int .i64 x.tries]) := Blk.later (Blk.new_at (by simp)) hb1
  have f0 := K0.out.at (i := 0) rfl
  have r0 := K1.out.at (i := 0) rfl
  have f1 := K0.out.at (i := 1) rfl
  have r1 := K1.out.at (i := 1) rfl
  have f2 := K0.out.at (i := 2) rfl
  have r2 := K1.out.at (i := 2) rfl
  have f3 := K0.out.at (i := 3) rfl
  have r3 := K1.out.at (i := 3) rfl
  have f4 := K0.out.at (i := 4) rfl
  have r4 := K1.out.at (i := 4) rfl
  have f5 := K0.out.at (i := 5) rfl
  have r5 := K1.out.at (i := 5) rfl
  clear hb1
  have hz1 := B1.out.size
  go_wp2_with fail
  refine (ZOi aA2 bA2 _ ac2 bc2 x.ends aL2 bL2 _ rfl (by omega) (SA2.out.below (by repeat (first | refine Below.setCell ?_ (by dsimp only; omega) _ | refine Below.alloc ?_ (by first | (simp; done) | (simp; omega) | omega) _ | exact B1.out))) (SB2.out.below (by repeat (first | refine Below.setCell ?_ (by dsimp only; omega) _ | refine Below.alloc ?_ (by first | (simp; done) | (simp; omega) | omega) _ | exact B1.out)))).mono ?_
  rintro e w2 ⟨rfl, hb2⟩
  have B2 : Hid (Below w.heap.size w w2) := Below.trans (by repeat (first | refine Below.setCell ?_ (by dsimp only; omega) _ | refine Below.alloc ?_ (by first | (simp; done) | (simp; omega) | omega) _ | exact B1.out)) (hb2.mono (by first | (simp; done) | (simp; omega) | omega))
  have K0 := Lib.hid (K0.out.later hb2)
  have K1 := Lib.hid (K1.out.later hb2)
  clear f0 r0 f1 r1 f2 r2 f3 r3 f4 r4 f5 r5
  have f0 := K0.out.at (i := 0) rfl
  have r0 := K1.out.at (i := 0) rfl
  have f1 := K0.out.at (i := 1) rfl
  have r1 := K1.out.at (i := 1) rfl
  have f2 := K0.out.at (i := 2) rfl
  have r2 := K1.out.at (i := 2) rfl
  have f3 := K0.out.at (i := 3) rfl
  have r3 := K1.out.at (i := 3) rfl
  have f4 := K0.out.at (i := 4) rfl
  have r4 := K1.out.at (i := 4) rfl
  have f5 := K0.out.at (i := 5) rfl
  have r5 := K1.out.at (i := 5) rfl
  clear hb2
  have hz2 := B2.out.size
  go_wp2_with fail
  refine (ZPe aA3 bA3 _ ac3 bc3 x.alphas aL3 bL3 _ rfl (by omega) (SA3.out.below (by repeat (first | refine Below.setCell ?_ (by dsimp only; omega) _ | refine Below.alloc ?_ (by first | (simp; done) | (simp; omega) | omega) _ | exact B2.out))) (SB3.out.below (by repeat (first | refine Below.setCell ?_ (by dsimp only; omega) _ | refine Below.alloc ?_ (by first | (simp; done) | (simp; omega) | omega) _ | exact B2.out)))).mono ?_
  rintro e w3 ⟨rfl, hb3⟩
  have B3 : Hid (Below w.heap.size w w3) := Below.trans (by repeat (first | refine Below.setCell ?_ (by dsimp only; omega) _ | refine Below.alloc ?_ (by first | (simp; done) | (simp; omega) | omega) _ | exact B2.out)) (hb3.mono (by first | (simp; done) | (simp; omega) | omega))
  have K0 := Lib.hid (K0.out.later hb3)
  have K1 := Lib.hid (K1.out.later hb3)
  clear f0 r0 f1 r1 f2 r2 f3 r3 f4 r4 f5 r5
  have f0 := K0.out.at (i := 0) rfl
  have r0 := K1.out.at (i := 0) rfl
  have f1 := K0.out.at (i := 1) rfl
  have r1 := K1.out.at (i := 1) rfl
  have f2 := K0.out.at (i := 2) rfl
  have r2 := K1.out.at (i := 2) rfl
  have f3 := K0.out.at (i := 3) rfl
  have r3 := K1.out.at (i := 3) rfl
  have f4 := K0.out.at (i := 4) rfl
  have r4 := K1.out.at (i := 4) rfl
  have f5 := K0.out.at (i := 5) rfl
  have r5 := K1.out.at (i := 5) rfl
  clear hb3
  have hz3 := B3.out.size
  go_wp2_with fail
  refine (ZPA aA4 bA4 _ ac4 bc4 x.nodes aL4 bL4 _ rfl (by omega) (SA4.out.below (by repeat (first | refine Below.setCell ?_ (by dsimp only; omega) _ | refine Below.alloc ?_ (by first | (simp; done) | (simp; omega) | omega) _ | exact B3.out))) (SB4.out.below (by repeat (first | refine Below.setCell ?_ (by dsimp only; omega) _ | refine Below.alloc ?_ (by first | (simp; done) | (simp; omega) | omega) _ | exact B3.out)))).mono ?_
  rintro e w4 ⟨rfl, hb4⟩
  have B4 : Hid (Below w.heap.size w w4) := Below.trans (by repeat (first | refine Below.setCell ?_ (by dsimp only; omega) _ | refine Below.alloc ?_ (by first | (simp; done) | (simp; omega) | omega) _ | exact B3.out)) (hb4.mono (by first | (simp; done) | (simp; omega) | omega))
  have K0 := Lib.hid (K0.out.later hb4)
  have K1 := Lib.hid (K1.out.later hb4)
  clear f0 r0 f1 r1 f2 r2 f3 r3 f4 r4 f5 r5
  have f0 := K0.out.at (i := 0) rfl
  have r0 := K1.out.at (i := 0) rfl
  have f1 := K0.out.at (i := 1) rfl
  have r1 := K1.out.at (i := 1) rfl
  have f2 := K0.out.at (i := 2) rfl
  have r2 := K1.out.at (i := 2) rfl
  have f3 := K0.out.at (i := 3) rfl
  have r3 := K1.out.at (i := 3) rfl
  have f4 := K0.out.at (i := 4) rfl
  have r4 := K1.out.at (i := 4) rfl
  have f5 := K0.out.at (i := 5) rfl
  have r5 := K1.out.at (i := 5) rfl
  clear hb4
  have hz4 := B4.out.size
  go_wp2_with fail
  refine (ZNl aA5 bA5 _ ac5 bc5 x.facts aL5 bL5 _ rfl (by omega) (SA5.out.below (by repeat (first | refine Below.setCell ?_ (by dsimp only; omega) _ | refine Below.alloc ?_ (by first | (simp; done) | (simp; omega) | omega) _ | exact B4.out))) (SB5.out.below (by repeat (first | refine Below.setCell ?_ (by dsimp only; omega) _ | refine Below.alloc ?_ (by first | (simp; done) | (simp; omega) | omega) _ | exact B4.out)))).mono ?_
  rintro e w5 ⟨rfl, hb5⟩
  have B5 : Hid (Below w.heap.size w w5) := Below.trans (by repeat (first | refine Below.setCell ?_ (by dsimp only; omega) _ | refine Below.alloc ?_ (by first | (simp; done) | (simp; omega) | omega) _ | exact B4.out)) (hb5.mono (by first | (simp; done) | (simp; omega) | omega))
  have K0 := Lib.hid (K0.out.later hb5)
  have K1 := Lib.hid (K1.out.later hb5)
  clear f0 r0 f1 r1 f2 r2 f3 r3 f4 r4 f5 r5
  have f0 := K0.out.at (i := 0) rfl
  have r0 := K1.out.at (i := 0) rfl
  have f1 := K0.out.at (i := 1) rfl
  have r1 := K1.out.at (i := 1) rfl
  have f2 := K0.out.at (i := 2) rfl
  have r2 := K1.out.at (i := 2) rfl
  have f3 := K0.out.at (i := 3) rfl
  have r3 := K1.out.at (i := 3) rfl
  have f4 := K0.out.at (i := 4) rfl
  have r4 := K1.out.at (i := 4) rfl
  have f5 := K0.out.at (i := 5) rfl
  have r5 := K1.out.at (i := 5) rfl
  clear hb5
  have hz5 := B5.out.size
  go_wp2_with fail
  go_ret
  exact ⟨rfl, (by repeat (first | refine Below.setCell ?_ (by dsimp only; omega) _ | refine Below.alloc ?_ (by first | (simp; done) | (simp; omega) | omega) _ | exact B5.out))⟩

set_option maxHeartbeats 1600000 in
theorem ZPy (cs ds : List Value) (x : ZL5) (L M : List Nat) (w : World) (h1 : ZL8.rep w cs x L) (h2 : ZL8.rep w ds x M) :
    Calls Tryz.prog 65 #[.agg cs.toArray, .agg ds.toArray] w (ZLx w) := by
  obtain ⟨aA1, ac1, aL1, rfl, _ahL, at0, an1, am1, as1⟩ := h1
  obtain ⟨bA1, bc1, bL1, rfl, _bhL, bt0, bn1, bm1, bs1⟩ := h2
  unfold maxLen at am1 bm1
  have SA1 := Lib.hid as1
  have SB1 := Lib.hid bs1
  clear as1 bs1
  go_enter Tryz.func65, Tryz.ntmps65
  go_wp2_with fail
  refine (ZNy [.string x.fact.rel, .slice aA1 x.fact.args.length ac1] [.string x.fact.rel, .slice bA1 x.fact.args.length bc1] x.fact _ _ _ ⟨aA1, ac1, aL1, rfl, rfl, at0, an1, (by unfold maxLen; omega), SA1.out.below (by repeat (first | refine Below.setCell ?_ (by dsimp only; omega) _ | refine Below.alloc ?_ (by first | (simp; done) | (simp; omega) | omega) _ | exact Below.refl _ _))⟩ ⟨bA1, bc1, bL1, rfl, rfl, bt0, bn1, (by unfold maxLen; omega), SB1.out.below (by repeat (first | refine Below.setCell ?_ (by dsimp only; omega) _ | refine Below.alloc ?_ (by first | (simp; done) | (simp; omega) | omega) _ | exact Below.refl _ _))⟩).mono ?_
  rintro e w1 ⟨rfl, hb1⟩
  have B1 : Hid (Below w.heap.size w w1) := Below.trans (by repeat (first | refine Below.setCell ?_ (by dsimp only; omega) _ | refine Below.alloc ?_ (by first | (simp; done) | (simp; omega) | omega) _ | exact Below.refl _ _)) (hb1.mono (by first | (simp; done) | (simp; omega) | omega))
  have K0 : Hid (Blk w1 w.heap.size 100 #[.string x.fact.rel, .slice aA1 x.fact.args.length ac1, .int .i64 x.time]) := Blk.later (Blk.alloc (Blk.new _ _ _) _) hb1
  have K1 : Hid (Blk w1 (w.heap.size + 1) 100 #[.string x.fact.rel, .slice bA1 x.fact.args.length bc1, .int .i64 x.time]) := Blk.later (Blk.new_at (by simp)) hb1
  have f0 := K0.out.at (i := 0) rfl
  have r0 := K1.out.at (i := 0) rfl
  have f1 := K0.out.at (i := 1) rfl
  have r1 := K1.out.at (i := 1) rfl
  have f2 := K0.out.at (i := 2) rfl
  have r2 := K1.out.at (i := 2) rfl
  clear hb1
  have hz1 := B1.out.size
  go_wp2_with fail
  go_ret
  exact ⟨rfl, (by repeat (first | refine Below.setCell ?_ (by dsimp only; omega) _ | refine Below.alloc ?_ (by first | (simp; done) | (simp; omega) | omega) _ | exact B1.out))⟩

set_option maxRecDepth 100000 in
set_option maxHeartbeats 1600000 in
theorem ZPb (A B : Option Addr) (n c d : Nat) (ds : List ZL5) (L M : List Nat) (w : World) (hn : n = ds.length) (hm : n ≤ 9223372036854775807) (h1 : Sli ZL8 w A ds L) (h2 : Sli ZL8 w B ds M) :
    Calls Tryz.prog 27 #[.slice A n c, .slice B n d] w (ZLx w) := by
  have H1 := Lib.hid h1
  have H2 := Lib.hid h2
  have HN := Lib.hid hn
  clear h1 h2 hn
  have hne : ((n : Int) != n) = false := by simp
  go_enter Tryz.func27, Tryz.ntmps27
  go_wp2
  go_loopw [5] (fun i wr => ∃ (k : Nat), k ≤ n ∧ i = .int .i64 k ∧ Hid (Below w.heap.size w wr)) (fun i _ => n - (intOf i).toNat)
  case atStart => exact ⟨0, Nat.zero_le _, rfl, Below.refl _ _⟩
  case round =>
    obtain ⟨k, hk, rfl, HB⟩ := hrel
    by_cases hlt : k < n
    · have hkl : k < ds.length := by have := HN.out; omega
      obtain ⟨b, off, cs, Lk, rfl, hbL, hLk, hrep, hc⟩ := H1.out.at_ hkl
      obtain ⟨b', off', cs', Mk, rfl, hbM, hMk, hrep', hc'⟩ := H2.out.at_ hkl
      have hbl : b < w.heap.size := H1.out.lt b hbL
      have hbl' : b' < w.heap.size := H2.out.lt b' hbM
      have HR := Lib.hid (ZL8.keep hrep (Qu HB.out (fun y m => H1.out.lt y (hLk y m))))
      have HR' := Lib.hid (ZL8.keep hrep' (Qu HB.out (fun y m => H2.out.lt y (hMk y m))))
      generalize ds[k] = x at *
      obtain ⟨aA1, ac1, rfl⟩ := ZNK hrep
      obtain ⟨bA1, bc1, rfl⟩ := ZNK hrep'
      have q0 : wr.cell? ⟨b, off + k * 3, none⟩ = _ := (HB.out.cell (p := ⟨b, off + (k * 3 + 0), none⟩) hbl).trans (hc 0 _ rfl)
      have p0 : wr.cell? ⟨b', off' + k * 3, none⟩ = _ := (HB.out.cell (p := ⟨b', off' + (k * 3 + 0), none⟩) hbl').trans (hc' 0 _ rfl)
      have q1 : wr.cell? ⟨b, off + k * 3 + 1, none⟩ = _ := (HB.out.cell (p := ⟨b, off + (k * 3 + 1), none⟩) hbl).trans (hc 1 _ rfl)
      have p1 : wr.cell? ⟨b', off' + k * 3 + 1, none⟩ = _ := (HB.out.cell (p := ⟨b', off' + (k * 3 + 1), none⟩) hbl').trans (hc' 1 _ rfl)
      have q2 : wr.cell? ⟨b, off + k * 3 + 2, none⟩ = _ := (HB.out.cell (p := ⟨b, off + (k * 3 + 2), none⟩) hbl).trans (hc 2 _ rfl)
      have p2 : wr.cell? ⟨b', off' + k * 3 + 2, none⟩ = _ := (HB.out.cell (p := ⟨b', off' + (k * 3 + 2), none⟩) hbl').trans (hc' 2 _ rfl)
      clear hc hc' hrep hrep'
      have k0 : (0 : Int) ≤ k := by omega
      have k1 : (k : Int) < n := by omega
      go_wp2_with fail
      go_still_tail 8, (by kernel_rfl)
      change wpList _ _ _ _ _ wr.drew
      go_wp2_with (go_at_call 65; (refine (ZPy _ _ x Lk Mk wr.drew (ZL8.keep HR.out (fun _ _ => rfl)) (ZL8.keep HR'.out (fun _ _ => rfl))).mono ?_; rintro e w1 ⟨rfl, hb1⟩; have HB1 := Lib.hid (HB.out.drew.trans (hb1.mono HB.out.size)); clear hb1))
      go_roundw
      case rel => exact ⟨k + 1, by omega, by go_num, HB1.out⟩
      case measure => simp [intOf]; omega
    · go_wp2
      go_ret
      exact ⟨rfl, HB.out⟩

set_option maxHeartbeats 1600000 in
theorem ZPg (cs ds : List Value) (x : ZLS) (L M : List Nat) (w : World) (h1 : ZLV.rep w cs x L) (h2 : ZLV.rep w ds x M) :
    Calls Tryz.prog 66 #[.agg cs.toArray, .agg ds.toArray] w (ZLx w) := by
  obtain ⟨aA1, ac1, aL1, rfl, _ahL, at0, an1, am1, as1⟩ := h1
  obtain ⟨bA1, bc1, bL1, rfl, _bhL, bt0, bn1, bm1, bs1⟩ := h2
  unfold maxLen at am1 bm1
  have SA1 := Lib.hid as1
  have SB1 := Lib.hid bs1
  clear as1 bs1
  go_enter Tryz.func66, Tryz.ntmps66
  go_wp2_with fail
  refine (ZOi aA1 bA1 _ ac1 bc1 x.times aL1 bL1 _ rfl (by omega) (SA1.out.below (by repeat (first | refine Below.setCell ?_ (by dsimp only; omega) _ | refine Below.alloc ?_ (by first | (simp; done) | (simp; omega) | omega) _ | exact Below.refl _ _))) (SB1.out.below (by repeat (first | refine Below.setCell ?_ (by dsimp only; omega) _ | refine Below.alloc ?_ (by first | (simp; done) | (simp; omega) | omega) _ | exact Below.refl _ _)))).mono ?_
  rintro e w1 ⟨rfl, hb1⟩
  have B1 : Hid (Below w.heap.size w w1) := Below.trans (by repeat (first | refine Below.setCell ?_ (by dsimp only; omega) _ | refine Below.alloc ?_ (by first | (simp; done) | (simp; omega) | omega) _ | exact Below.refl _ _)) (hb1.mono (by first | (simp; done) | (simp; omega) | omega))
  have K0 : Hid (Blk w1 w.heap.size 103 #[.string x.rule, .slice aA1 x.times.length ac1]) := Blk.later (Blk.alloc (Blk.new _ _ _) _) hb1
  have K1 : Hid (Blk w1 (w.heap.size + 1) 103 #[.string x.rule, .slice bA1 x.times.length bc1]) := Blk.later (Blk.new_at (by simp)) hb1
  have f0 := K0.out.at (i := 0) rfl
  have r0 := K1.out.at (i := 0) rfl
  have f1 := K0.out.at (i := 1) rfl
  have r1 := K1.out.at (i := 1) rfl
  clear hb1
  have hz1 := B1.out.size
  go_wp2_with fail
  go_ret
  exact ⟨rfl, (by repeat (first | refine Below.setCell ?_ (by dsimp only; omega) _ | refine Below.alloc ?_ (by first | (simp; done) | (simp; omega) | omega) _ | exact B1.out))⟩

set_option maxRecDepth 100000 in
set_option maxHeartbeats 1600000 in
theorem ZON (A B : Option Addr) (n c d : Nat) (ds : List ZLS) (L M : List Nat) (w : World) (hn : n = ds.length) (hm : n ≤ 9223372036854775807) (h1 : Sli ZLV w A ds L) (h2 : Sli ZLV w B ds M) :
    Calls Tryz.prog 28 #[.slice A n c, .slice B n d] w (ZLx w) := by
  have H1 := Lib.hid h1
  have H2 := Lib.hid h2
  have HN := Lib.hid hn
  clear h1 h2 hn
  have hne : ((n : Int) != n) = false := by simp
  go_enter Tryz.func28, Tryz.ntmps28
  go_wp2
  go_loopw [5] (fun i wr => ∃ (k : Nat), k ≤ n ∧ i = .int .i64 k ∧ Hid (Below w.heap.size w wr)) (fun i _ => n - (intOf i).toNat)
  case atStart => exact ⟨0, Nat.zero_le _, rfl, Below.refl _ _⟩
  case round =>
    obtain ⟨k, hk, rfl, HB⟩ := hrel
    by_cases hlt : k < n
    · have hkl : k < ds.length := by have := HN.out; omega
      obtain ⟨b, off, cs, Lk, rfl, hbL, hLk, hrep, hc⟩ := H1.out.at_ hkl
      obtain ⟨b', off', cs', Mk, rfl, hbM, hMk, hrep', hc'⟩ := H2.out.at_ hkl
      have hbl : b < w.heap.size := H1.out.lt b hbL
      have hbl' : b' < w.heap.size := H2.out.lt b' hbM
      have HR := Lib.hid (ZLV.keep hrep (Qu HB.out (fun y m => H1.out.lt y (hLk y m))))
      have HR' := Lib.hid (ZLV.keep hrep' (Qu HB.out (fun y m => H2.out.lt y (hMk y m))))
      generalize ds[k] = x at *
      obtain ⟨aA1, ac1, rfl⟩ := ZNu hrep
      obtain ⟨bA1, bc1, rfl⟩ := ZNu hrep'
      have q0 : wr.cell? ⟨b, off + k * 2, none⟩ = _ := (HB.out.cell (p := ⟨b, off + (k * 2 + 0), none⟩) hbl).trans (hc 0 _ rfl)
      have p0 : wr.cell? ⟨b', off' + k * 2, none⟩ = _ := (HB.out.cell (p := ⟨b', off' + (k * 2 + 0), none⟩) hbl').trans (hc' 0 _ rfl)
      have q1 : wr.cell? ⟨b, off + k * 2 + 1, none⟩ = _ := (HB.out.cell (p := ⟨b, off + (k * 2 + 1), none⟩) hbl).trans (hc 1 _ rfl)
      have p1 : wr.cell? ⟨b', off' + k * 2 + 1, none⟩ = _ := (HB.out.cell (p := ⟨b', off' + (k * 2 + 1), none⟩) hbl').trans (hc' 1 _ rfl)
      clear hc hc' hrep hrep'
      have k0 : (0 : Int) ≤ k := by omega
      have k1 : (k : Int) < n := by omega
      go_wp2_with fail
      go_still_tail 8, (by kernel_rfl)
      change wpList _ _ _ _ _ wr.drew
      go_wp2_with (go_at_call 66; (refine (ZPg _ _ x Lk Mk wr.drew (ZLV.keep HR.out (fun _ _ => rfl)) (ZLV.keep HR'.out (fun _ _ => rfl))).mono ?_; rintro e w1 ⟨rfl, hb1⟩; have HB1 := Lib.hid (HB.out.drew.trans (hb1.mono HB.out.size)); clear hb1))
      go_roundw
      case rel => exact ⟨k + 1, by omega, by go_num, HB1.out⟩
      case measure => simp [intOf]; omega
    · go_wp2
      go_ret
      exact ⟨rfl, HB.out⟩

set_option maxHeartbeats 1600000 in
theorem ZPC (cs ds : List Value) (x : ZL6) (L M : List Nat) (w : World) (h1 : ZL9.rep w cs x L) (h2 : ZL9.rep w ds x M) :
    Calls Tryz.prog 67 #[.agg cs.toArray, .agg ds.toArray] w (ZLx w) := by
  obtain ⟨aA1, ac1, aL1, rfl, _ahL, at0, at1, an1, am1, as1⟩ := h1
  obtain ⟨bA1, bc1, bL1, rfl, _bhL, bt0, bt1, bn1, bm1, bs1⟩ := h2
  unfold maxLen at am1 bm1
  have SA1 := Lib.hid as1
  have SB1 := Lib.hid bs1
  clear as1 bs1
  go_enter Tryz.func67, Tryz.ntmps67
  go_wp2_with fail
  refine (ZNy [.string x.fact.rel, .slice aA1 x.fact.args.length ac1] [.string x.fact.rel, .slice bA1 x.fact.args.length bc1] x.fact _ _ _ ⟨aA1, ac1, aL1, rfl, rfl, at1, an1, (by unfold maxLen; omega), SA1.out.below (by repeat (first | refine Below.setCell ?_ (by dsimp only; omega) _ | refine Below.alloc ?_ (by first | (simp; done) | (simp; omega) | omega) _ | exact Below.refl _ _))⟩ ⟨bA1, bc1, bL1, rfl, rfl, bt1, bn1, (by unfold maxLen; omega), SB1.out.below (by repeat (first | refine Below.setCell ?_ (by dsimp only; omega) _ | refine Below.alloc ?_ (by first | (simp; done) | (simp; omega) | omega) _ | exact Below.refl _ _))⟩).mono ?_
  rintro e w1 ⟨rfl, hb1⟩
  have B1 : Hid (Below w.heap.size w w1) := Below.trans (by repeat (first | refine Below.setCell ?_ (by dsimp only; omega) _ | refine Below.alloc ?_ (by first | (simp; done) | (simp; omega) | omega) _ | exact Below.refl _ _)) (hb1.mono (by first | (simp; done) | (simp; omega) | omega))
  have K0 : Hid (Blk w1 w.heap.size 106 #[.int .i64 x.kind, .string x.rule, .string x.fact.rel, .slice aA1 x.fact.args.length ac1]) := Blk.later (Blk.alloc (Blk.new _ _ _) _) hb1
  have K1 : Hid (Blk w1 (w.heap.size + 1) 106 #[.int .i64 x.kind, .string x.rule, .string x.fact.rel, .slice bA1 x.fact.args.length bc1]) := Blk.later (Blk.new_at (by simp)) hb1
  have f0 := K0.out.at (i := 0) rfl
  have r0 := K1.out.at (i := 0) rfl
  have f1 := K0.out.at (i := 1) rfl
  have r1 := K1.out.at (i := 1) rfl
  have f2 := K0.out.at (i := 2) rfl
  have r2 := K1.out.at (i := 2) rfl
  have f3 := K0.out.at (i := 3) rfl
  have r3 := K1.out.at (i := 3) rfl
  clear hb1
  have hz1 := B1.out.size
  go_wp2_with fail
  go_ret
  exact ⟨rfl, (by repeat (first | refine Below.setCell ?_ (by dsimp only; omega) _ | refine Below.alloc ?_ (by first | (simp; done) | (simp; omega) | omega) _ | exact B1.out))⟩

set_option maxRecDepth 100000 in
set_option maxHeartbeats 1600000 in
theorem ZO7 (A B : Option Addr) (n c d : Nat) (ds : List ZL6) (L M : List Nat) (w : World) (hn : n = ds.length) (hm : n ≤ 9223372036854775807) (h1 : Sli ZL9 w A ds L) (h2 : Sli ZL9 w B ds M) :
    Calls Tryz.prog 29 #[.slice A n c, .slice B n d] w (ZLx w) := by
  have H1 := Lib.hid h1
  have H2 := Lib.hid h2
  have HN := Lib.hid hn
  clear h1 h2 hn
  have hne : ((n : Int) != n) = false := by simp
  go_enter Tryz.func29, Tryz.ntmps29
  go_wp2
  go_loopw [5] (fun i wr => ∃ (k : Nat), k ≤ n ∧ i = .int .i64 k ∧ Hid (Below w.heap.size w wr)) (fun i _ => n - (intOf i).toNat)
  case atStart => exact ⟨0, Nat.zero_le _, rfl, Below.refl _ _⟩
  case round =>
    obtain ⟨k, hk, rfl, HB⟩ := hrel
    by_cases hlt : k < n
    · have hkl : k < ds.length := by have := HN.out; omega
      obtain ⟨b, off, cs, Lk, rfl, hbL, hLk, hrep, hc⟩ := H1.out.at_ hkl
      obtain ⟨b', off', cs', Mk, rfl, hbM, hMk, hrep', hc'⟩ := H2.out.at_ hkl
      have hbl : b < w.heap.size := H1.out.lt b hbL
      have hbl' : b' < w.heap.size := H2.out.lt b' hbM
      have HR := Lib.hid (ZL9.keep hrep (Qu HB.out (fun y m => H1.out.lt y (hLk y m))))
      have HR' := Lib.hid (ZL9.keep hrep' (Qu HB.out (fun y m => H2.out.lt y (hMk y m))))
      generalize ds[k] = x at *
      obtain ⟨aA1, ac1, rfl⟩ := ZNG hrep
      obtain ⟨bA1, bc1, rfl⟩ := ZNG hrep'
      have q0 : wr.cell? ⟨b, off + k * 4, none⟩ = _ := (HB.out.cell (p := ⟨b, off + (k * 4 + 0), none⟩) hbl).trans (hc 0 _ rfl)
      have p0 : wr.cell? ⟨b', off' + k * 4, none⟩ = _ := (HB.out.cell (p := ⟨b', off' + (k * 4 + 0), none⟩) hbl').trans (hc' 0 _ rfl)
      have q1 : wr.cell? ⟨b, off + k * 4 + 1, none⟩ = _ := (HB.out.cell (p := ⟨b, off + (k * 4 + 1), none⟩) hbl).trans (hc 1 _ rfl)
      have p1 : wr.cell? ⟨b', off' + k * 4 + 1, none⟩ = _ := (HB.out.cell (p := ⟨b', off' + (k * 4 + 1), none⟩) hbl').trans (hc' 1 _ rfl)
      have q2 : wr.cell? ⟨b, off + k * 4 + 2, none⟩ = _ := (HB.out.cell (p := ⟨b, off + (k * 4 + 2), none⟩) hbl).trans (hc 2 _ rfl)
      have p2 : wr.cell? ⟨b', off' + k * 4 + 2, none⟩ = _ := (HB.out.cell (p := ⟨b', off' + (k * 4 + 2), none⟩) hbl').trans (hc' 2 _ rfl)
      have q3 : wr.cell? ⟨b, off + k * 4 + 3, none⟩ = _ := (HB.out.cell (p := ⟨b, off + (k * 4 + 3), none⟩) hbl).trans (hc 3 _ rfl)
      have p3 : wr.cell? ⟨b', off' + k * 4 + 3, none⟩ = _ := (HB.out.cell (p := ⟨b', off' + (k * 4 + 3), none⟩) hbl').trans (hc' 3 _ rfl)
      clear hc hc' hrep hrep'
      have k0 : (0 : Int) ≤ k := by omega
      have k1 : (k : Int) < n := by omega
      go_wp2_with fail
      go_still_tail 8, (by kernel_rfl)
      change wpList _ _ _ _ _ wr.drew
      go_wp2_with (go_at_call 67; (refine (ZPC _ _ x Lk Mk wr.drew (ZL9.keep HR.out (fun _ _ => rfl)) (ZL9.keep HR'.out (fun _ _ => rfl))).mono ?_; rintro e w1 ⟨rfl, hb1⟩; have HB1 := Lib.hid (HB.out.drew.trans (hb1.mono HB.out.size)); clear hb1))
      go_roundw
      case rel => exact ⟨k + 1, by omega, by go_num, HB1.out⟩
      case measure => simp [intOf]; omega
    · go_wp2
      go_ret
      exact ⟨rfl, HB.out⟩

set_option maxHeartbeats 1600000 in
theorem ZO6 (cs ds : List Value) (x : ZMj) (L M : List Nat) (w : World) (h1 : ZPP.rep w cs x L) (h2 : ZPP.rep w ds x M) :
    Calls Tryz.prog 13 #[.agg cs.toArray, .agg ds.toArray] w (ZLx w) := by
  obtain ⟨aA1, ac1, aL1, aA2, ac2, aL2, aA3, ac3, aL3, aA4, ac4, aL4, rfl, _ahL, an1, am1, as1, an2, am2, as2, an3, am3, as3, an4, am4, as4⟩ := h1
  obtain ⟨bA1, bc1, bL1, bA2, bc2, bL2, bA3, bc3, bL3, bA4, bc4, bL4, rfl, _bhL, bn1, bm1, bs1, bn2, bm2, bs2, bn3, bm3, bs3, bn4, bm4, bs4⟩ := h2
  unfold maxLen at am1 bm1 am2 bm2 am3 bm3 am4 bm4
  have SA1 := Lib.hid as1
  have SB1 := Lib.hid bs1
  clear as1 bs1
  have SA2 := Lib.hid as2
  have SB2 := Lib.hid bs2
  clear as2 bs2
  have SA3 := Lib.hid as3
  have SB3 := Lib.hid bs3
  clear as3 bs3
  have SA4 := Lib.hid as4
  have SB4 := Lib.hid bs4
  clear as4 bs4
  go_enter Tryz.func13, Tryz.ntmps13
  go_wp2_with fail
  refine (ZN4 aA1 bA1 _ ac1 bc1 x.rules aL1 bL1 _ rfl (by omega) (SA1.out.below (by repeat (first | refine Below.setCell ?_ (by dsimp only; omega) _ | refine Below.alloc ?_ (by first | (simp; done) | (simp; omega) | omega) _ | exact Below.refl _ _))) (SB1.out.below (by repeat (first | refine Below.setCell ?_ (by dsimp only; omega) _ | refine Below.alloc ?_ (by first | (simp; done) | (simp; omega) | omega) _ | exact Below.refl _ _)))).mono ?_
  rintro e w1 ⟨rfl, hb1⟩
  have B1 : Hid (Below w.heap.size w w1) := Below.trans (by repeat (first | refine Below.setCell ?_ (by dsimp only; omega) _ | refine Below.alloc ?_ (by first | (simp; done) | (simp; omega) | omega) _ | exact Below.refl _ _)) (hb1.mono (by first | (simp; done) | (simp; omega) | omega))
  have K0 : Hid (Blk w1 w.heap.size 27 #[.slice aA1 x.rules.length ac1, .slice aA2 x.memory.length ac2, .int .i64 x.clock, .slice aA3 x.fired.length ac3, .bool x.halted, .slice aA4 x.log.length ac4]) := Blk.later (Blk.alloc (Blk.new _ _ _) _) hb1
  have K1 : Hid (Blk w1 (w.heap.size + 1) 27 #[.slice bA1 x.rules.length bc1, .slice bA2 x.memory.length bc2, .int .i64 x.clock, .slice bA3 x.fired.length bc3, .bool x.halted, .slice bA4 x.log.length bc4]) := Blk.later (Blk.new_at (by simp)) hb1
  have f0 := K0.out.at (i := 0) rfl
  have r0 := K1.out.at (i := 0) rfl
  have f1 := K0.out.at (i := 1) rfl
  have r1 := K1.out.at (i := 1) rfl
  have f2 := K0.out.at (i := 2) rfl
  have r2 := K1.out.at (i := 2) rfl
  have f3 := K0.out.at (i := 3) rfl
  have r3 := K1.out.at (i := 3) rfl
  have f4 := K0.out.at (i := 4) rfl
  have r4 := K1.out.at (i := 4) rfl
  have f5 := K0.out.at (i := 5) rfl
  have r5 := K1.out.at (i := 5) rfl
  clear hb1
  have hz1 := B1.out.size
  go_wp2_with fail
  refine (ZPb aA2 bA2 _ ac2 bc2 x.memory aL2 bL2 _ rfl (by omega) (SA2.out.below (by repeat (first | refine Below.setCell ?_ (by dsimp only; omega) _ | refine Below.alloc ?_ (by first | (simp; done) | (simp; omega) | omega) _ | exact B1.out))) (SB2.out.below (by repeat (first | refine Below.setCell ?_ (by dsimp only; omega) _ | refine Below.alloc ?_ (by first | (simp; done) | (simp; omega) | omega) _ | exact B1.out)))).mono ?_
  rintro e w2 ⟨rfl, hb2⟩
  have B2 : Hid (Below w.heap.size w w2) := Below.trans (by repeat (first | refine Below.setCell ?_ (by dsimp only; omega) _ | refine Below.alloc ?_ (by first | (simp; done) | (simp; omega) | omega) _ | exact B1.out)) (hb2.mono (by first | (simp; done) | (simp; omega) | omega))
  have K0 := Lib.hid (K0.out.later hb2)
  have K1 := Lib.hid (K1.out.later hb2)
  clear f0 r0 f1 r1 f2 r2 f3 r3 f4 r4 f5 r5
  have f0 := K0.out.at (i := 0) rfl
  have r0 := K1.out.at (i := 0) rfl
  have f1 := K0.out.at (i := 1) rfl
  have r1 := K1.out.at (i := 1) rfl
  have f2 := K0.out.at (i := 2) rfl
  have r2 := K1.out.at (i := 2) rfl
  have f3 := K0.out.at (i := 3) rfl
  have r3 := K1.out.at (i := 3) rfl
  have f4 := K0.out.at (i := 4) rfl
  have r4 := K1.out.at (i := 4) rfl
  have f5 := K0.out.at (i := 5) rfl
  have r5 := K1.out.at (i := 5) rfl
  clear hb2
  have hz2 := B2.out.size
  go_wp2_with fail
  refine (ZON aA3 bA3 _ ac3 bc3 x.fired aL3 bL3 _ rfl (by omega) (SA3.out.below (by repeat (first | refine Below.setCell ?_ (by dsimp only; omega) _ | refine Below.alloc ?_ (by first | (simp; done) | (simp; omega) | omega) _ | exact B2.out))) (SB3.out.below (by repeat (first | refine Below.setCell ?_ (by dsimp only; omega) _ | refine Below.alloc ?_ (by first | (simp; done) | (simp; omega) | omega) _ | exact B2.out)))).mono ?_
  rintro e w3 ⟨rfl, hb3⟩
  have B3 : Hid (Below w.heap.size w w3) := Below.trans (by repeat (first | refine Below.setCell ?_ (by dsimp only; omega) _ | refine Below.alloc ?_ (by first | (simp; done) | (simp; omega) | omega) _ | exact B2.out)) (hb3.mono (by first | (simp; done) | (simp; omega) | omega))
  have K0 := Lib.hid (K0.out.later hb3)
  have K1 := Lib.hid (K1.out.later hb3)
  clear f0 r0 f1 r1 f2 r2 f3 r3 f4 r4 f5 r5
  have f0 := K0.out.at (i := 0) rfl
  have r0 := K1.out.at (i := 0) rfl
  have f1 := K0.out.at (i := 1) rfl
  have r1 := K1.out.at (i := 1) rfl
  have f2 := K0.out.at (i := 2) rfl
  have r2 := K1.out.at (i := 2) rfl
  have f3 := K0.out.at (i := 3) rfl
  have r3 := K1.out.at (i := 3) rfl
  have f4 := K0.out.at (i := 4) rfl
  have r4 := K1.out.at (i := 4) rfl
  have f5 := K0.out.at (i := 5) rfl
  have r5 := K1.out.at (i := 5) rfl
  clear hb3
  have hz3 := B3.out.size
  go_wp2_with fail
  refine (ZO7 aA4 bA4 _ ac4 bc4 x.log aL4 bL4 _ rfl (by omega) (SA4.out.below (by repeat (first | refine Below.setCell ?_ (by dsimp only; omega) _ | refine Below.alloc ?_ (by first | (simp; done) | (simp; omega) | omega) _ | exact B3.out))) (SB4.out.below (by repeat (first | refine Below.setCell ?_ (by dsimp only; omega) _ | refine Below.alloc ?_ (by first | (simp; done) | (simp; omega) | omega) _ | exact B3.out)))).mono ?_
  rintro e w4 ⟨rfl, hb4⟩
  have B4 : Hid (Below w.heap.size w w4) := Below.trans (by repeat (first | refine Below.setCell ?_ (by dsimp only; omega) _ | refine Below.alloc ?_ (by first | (simp; done) | (simp; omega) | omega) _ | exact B3.out)) (hb4.mono (by first | (simp; done) | (simp; omega) | omega))
  have K0 := Lib.hid (K0.out.later hb4)
  have K1 := Lib.hid (K1.out.later hb4)
  clear f0 r0 f1 r1 f2 r2 f3 r3 f4 r4 f5 r5
  have f0 := K0.out.at (i := 0) rfl
  have r0 := K1.out.at (i := 0) rfl
  have f1 := K0.out.at (i := 1) rfl
  have r1 := K1.out.at (i := 1) rfl
  have f2 := K0.out.at (i := 2) rfl
  have r2 := K1.out.at (i := 2) rfl
  have f3 := K0.out.at (i := 3) rfl
  have r3 := K1.out.at (i := 3) rfl
  have f4 := K0.out.at (i := 4) rfl
  have r4 := K1.out.at (i := 4) rfl
  have f5 := K0.out.at (i := 5) rfl
  have r5 := K1.out.at (i := 5) rfl
  clear hb4
  have hz4 := B4.out.size
  go_wp2_with fail
  go_ret
  exact ⟨rfl, (by repeat (first | refine Below.setCell ?_ (by dsimp only; omega) _ | refine Below.alloc ?_ (by first | (simp; done) | (simp; omega) | omega) _ | exact B4.out))⟩

set_option maxHeartbeats 1600000 in
theorem ZOy (cs ds : List Value) (x : ZMq) (L M : List Nat) (w : World) (h1 : ZNR.rep w cs x L) (h2 : ZNR.rep w ds x M) :
    Calls Tryz.prog 6 #[.agg cs.toArray, .agg ds.toArray] w (ZLx w) := by
  obtain ⟨aA1, ac1, aL1, aA2, ac2, aL2, aA3, ac3, aL3, aA4, ac4, aL4, aA5, ac5, aL5, aA6, ac6, aL6, aA7, ac7, aL7, aA8, ac8, aL8, aA9, ac9, aL9, rfl, _ahL, an1, am1, as1, an2, am2, as2, an3, am3, as3, an4, am4, as4, an5, am5, as5, an6, am6, as6, an7, am7, as7, an8, am8, as8, an9, am9, as9⟩ := h1
  obtain ⟨bA1, bc1, bL1, bA2, bc2, bL2, bA3, bc3, bL3, bA4, bc4, bL4, bA5, bc5, bL5, bA6, bc6, bL6, bA7, bc7, bL7, bA8, bc8, bL8, bA9, bc9, bL9, rfl, _bhL, bn1, bm1, bs1, bn2, bm2, bs2, bn3, bm3, bs3, bn4, bm4, bs4, bn5, bm5, bs5, bn6, bm6, bs6, bn7, bm7, bs7, bn8, bm8, bs8, bn9, bm9, bs9⟩ := h2
  unfold maxLen at am1 bm1 am2 bm2 am3 bm3 am4 bm4 am5 bm5 am6 bm6 am7 bm7 am8 bm8 am9 bm9
  have SA1 := Lib.hid as1
  have SB1 := Lib.hid bs1
  clear as1 bs1
  have SA2 := Lib.hid as2
  have SB2 := Lib.hid bs2
  clear as2 bs2
  have SA3 := Lib.hid as3
  have SB3 := Lib.hid bs3
  clear as3 bs3
  have SA4 := Lib.hid as4
  have SB4 := Lib.hid bs4
  clear as4 bs4
  have SA5 := Lib.hid as5
  have SB5 := Lib.hid bs5
  clear as5 bs5
  have SA6 := Lib.hid as6
  have SB6 := Lib.hid bs6
  clear as6 bs6
  have SA7 := Lib.hid as7
  have SB7 := Lib.hid bs7
  clear as7 bs7
  have SA8 := Lib.hid as8
  have SB8 := Lib.hid bs8
  clear as8 bs8
  have SA9 := Lib.hid as9
  have SB9 := Lib.hid bs9
  clear as9 bs9
  go_enter Tryz.func6, Tryz.ntmps6
  go_wp2_with fail
  refine (ZO6 [.slice aA1 x.engine.rules.length ac1, .slice aA2 x.engine.memory.length ac2, .int .i64 x.engine.clock, .slice aA3 x.engine.fired.length ac3, .bool x.engine.halted, .slice aA4 x.engine.log.length ac4] [.slice bA1 x.engine.rules.length bc1, .slice bA2 x.engine.memory.length bc2, .int .i64 x.engine.clock, .slice bA3 x.engine.fired.length bc3, .bool x.engine.halted, .slice bA4 x.engine.log.length bc4] x.engine _ _ _ ⟨aA1, ac1, aL1, aA2, ac2, aL2, aA3, ac3, aL3, aA4, ac4, aL4, rfl, rfl, an1, (by unfold maxLen; omega), SA1.out.below (by repeat (first | refine Below.setCell ?_ (by dsimp only; omega) _ | refine Below.alloc ?_ (by first | (simp; done) | (simp; omega) | omega) _ | exact Below.refl _ _)), an2, (by unfold maxLen; omega), SA2.out.below (by repeat (first | refine Below.setCell ?_ (by dsimp only; omega) _ | refine Below.alloc ?_ (by first | (simp; done) | (simp; omega) | omega) _ | exact Below.refl _ _)), an3, (by unfold maxLen; omega), SA3.out.below (by repeat (first | refine Below.setCell ?_ (by dsimp only; omega) _ | refine Below.alloc ?_ (by first | (simp; done) | (simp; omega) | omega) _ | exact Below.refl _ _)), an4, (by unfold maxLen; omega), SA4.out.below (by repeat (first | refine Below.setCell ?_ (by dsimp only; omega) _ | refine Below.alloc ?_ (by first | (simp; done) | (simp; omega) | omega) _ | exact Below.refl _ _))⟩ ⟨bA1, bc1, bL1, bA2, bc2, bL2, bA3, bc3, bL3, bA4, bc4, bL4, rfl, rfl, bn1, (by unfold maxLen; omega), SB1.out.below (by repeat (first | refine Below.setCell ?_ (by dsimp only; omega) _ | refine Below.alloc ?_ (by first | (simp; done) | (simp; omega) | omega) _ | exact Below.refl _ _)), bn2, (by unfold maxLen; omega), SB2.out.below (by repeat (first | refine Below.setCell ?_ (by dsimp only; omega) _ | refine Below.alloc ?_ (by first | (simp; done) | (simp; omega) | omega) _ | exact Below.refl _ _)), bn3, (by unfold maxLen; omega), SB3.out.below (by repeat (first | refine Below.setCell ?_ (by dsimp only; omega) _ | refine Below.alloc ?_ (by first | (simp; done) | (simp; omega) | omega) _ | exact Below.refl _ _)), bn4, (by unfold maxLen; omega), SB4.out.below (by repeat (first | refine Below.setCell ?_ (by dsimp only; omega) _ | refine Below.alloc ?_ (by first | (simp; done) | (simp; omega) | omega) _ | exact Below.refl _ _))⟩).mono ?_
  rintro e w1 ⟨rfl, hb1⟩
  have B1 : Hid (Below w.heap.size w w1) := Below.trans (by repeat (first | refine Below.setCell ?_ (by dsimp only; omega) _ | refine Below.alloc ?_ (by first | (simp; done) | (simp; omega) | omega) _ | exact Below.refl _ _)) (hb1.mono (by first | (simp; done) | (simp; omega) | omega))
  have K0 : Hid (Blk w1 w.heap.size 35 #[.slice aA1 x.engine.rules.length ac1, .slice aA2 x.engine.memory.length ac2, .int .i64 x.engine.clock, .slice aA3 x.engine.fired.length ac3, .bool x.engine.halted, .slice aA4 x.engine.log.length ac4, .slice aA5 x.network.rules.length ac5, .slice aA6 x.network.ends.length ac6, .slice aA7 x.network.alphas.length ac7, .slice aA8 x.network.nodes.length ac8, .slice aA9 x.network.facts.length ac9, .int .i64 x.network.tries]) := Blk.later (Blk.alloc (Blk.new _ _ _) _) hb1
  have K1 : Hid (Blk w1 (w.heap.size + 1) 35 #[.slice bA1 x.engine.rules.length bc1, .slice bA2 x.engine.memory.length bc2, .int .i64 x.engine.clock, .slice bA3 x.engine.fired.length bc3, .bool x.engine.halted, .slice bA4 x.engine.log.length bc4, .slice bA5 x.network.rules.length bc5, .slice bA6 x.network.ends.length bc6, .slice bA7 x.network.alphas.length bc7, .slice bA8 x.network.nodes.length bc8, .slice bA9 x.network.facts.length bc9, .int .i64 x.network.tries]) := Blk.later (Blk.new_at (by simp)) hb1
  have f0 := K0.out.at (i := 0) rfl
  have r0 := K1.out.at (i := 0) rfl
  have f1 := K0.out.at (i := 1) rfl
  have r1 := K1.out.at (i := 1) rfl
  have f2 := K0.out.at (i := 2) rfl
  have r2 := K1.out.at (i := 2) rfl
  have f3 := K0.out.at (i := 3) rfl
  have r3 := K1.out.at (i := 3) rfl
  have f4 := K0.out.at (i := 4) rfl
  have r4 := K1.out.at (i := 4) rfl
  have f5 := K0.out.at (i := 5) rfl
  have r5 := K1.out.at (i := 5) rfl
  have f6 := K0.out.at (i := 6) rfl
  have r6 := K1.out.at (i := 6) rfl
  have f7 := K0.out.at (i := 7) rfl
  have r7 := K1.out.at (i := 7) rfl
  have f8 := K0.out.at (i := 8) rfl
  have r8 := K1.out.at (i := 8) rfl
  have f9 := K0.out.at (i := 9) rfl
  have r9 := K1.out.at (i := 9) rfl
  have f10 := K0.out.at (i := 10) rfl
  have r10 := K1.out.at (i := 10) rfl
  have f11 := K0.out.at (i := 11) rfl
  have r11 := K1.out.at (i := 11) rfl
  clear hb1
  have hz1 := B1.out.size
  go_wp2_with fail
  refine (ZOX [.slice aA5 x.network.rules.length ac5, .slice aA6 x.network.ends.length ac6, .slice aA7 x.network.alphas.length ac7, .slice aA8 x.network.nodes.length ac8, .slice aA9 x.network.facts.length ac9, .int .i64 x.network.tries] [.slice bA5 x.network.rules.length bc5, .slice bA6 x.network.ends.length bc6, .slice bA7 x.network.alphas.length bc7, .slice bA8 x.network.nodes.length bc8, .slice bA9 x.network.facts.length bc9, .int .i64 x.network.tries] x.network _ _ _ ⟨aA5, ac5, aL5, aA6, ac6, aL6, aA7, ac7, aL7, aA8, ac8, aL8, aA9, ac9, aL9, rfl, rfl, an5, (by unfold maxLen; omega), SA5.out.below (by repeat (first | refine Below.setCell ?_ (by dsimp only; omega) _ | refine Below.alloc ?_ (by first | (simp; done) | (simp; omega) | omega) _ | exact B1.out)), an6, (by unfold maxLen; omega), SA6.out.below (by repeat (first | refine Below.setCell ?_ (by dsimp only; omega) _ | refine Below.alloc ?_ (by first | (simp; done) | (simp; omega) | omega) _ | exact B1.out)), an7, (by unfold maxLen; omega), SA7.out.below (by repeat (first | refine Below.setCell ?_ (by dsimp only; omega) _ | refine Below.alloc ?_ (by first | (simp; done) | (simp; omega) | omega) _ | exact B1.out)), an8, (by unfold maxLen; omega), SA8.out.below (by repeat (first | refine Below.setCell ?_ (by dsimp only; omega) _ | refine Below.alloc ?_ (by first | (simp; done) | (simp; omega) | omega) _ | exact B1.out)), an9, (by unfold maxLen; omega), SA9.out.below (by repeat (first | refine Below.setCell ?_ (by dsimp only; omega) _ | refine Below.alloc ?_ (by first | (simp; done) | (simp; omega) | omega) _ | exact B1.out))⟩ ⟨bA5, bc5, bL5, bA6, bc6, bL6, bA7, bc7, bL7, bA8, bc8, bL8, bA9, bc9, bL9, rfl, rfl, bn5, (by unfold maxLen; omega), SB5.out.below (by repeat (first | refine Below.setCell ?_ (by dsimp only; omega) _ | refine Below.alloc ?_ (by first | (simp; done) | (simp; omega) | omega) _ | exact B1.out)), bn6, (by unfold maxLen; omega), SB6.out.below (by repeat (first | refine Below.setCell ?_ (by dsimp only; omega) _ | refine Below.alloc ?_ (by first | (simp; done) | (simp; omega) | omega) _ | exact B1.out)), bn7, (by unfold maxLen; omega), SB7.out.below (by repeat (first | refine Below.setCell ?_ (by dsimp only; omega) _ | refine Below.alloc ?_ (by first | (simp; done) | (simp; omega) | omega) _ | exact B1.out)), bn8, (by unfold maxLen; omega), SB8.out.below (by repeat (first | refine Below.setCell ?_ (by dsimp only; omega) _ | refine Below.alloc ?_ (by first | (simp; done) | (simp; omega) | omega) _ | exact B1.out)), bn9, (by unfold maxLen; omega), SB9.out.below (by repeat (first | refine Below.setCell ?_ (by dsimp only; omega) _ | refine Below.alloc ?_ (by first | (simp; done) | (simp; omega) | omega) _ | exact B1.out))⟩).mono ?_
  rintro e w2 ⟨rfl, hb2⟩
  have B2 : Hid (Below w.heap.size w w2) := Below.trans (by repeat (first | refine Below.setCell ?_ (by dsimp only; omega) _ | refine Below.alloc ?_ (by first | (simp; done) | (simp; omega) | omega) _ | exact B1.out)) (hb2.mono (by first | (simp; done) | (simp; omega) | omega))
  have K0 := Lib.hid (K0.out.later hb2)
  have K1 := Lib.hid (K1.out.later hb2)
  clear f0 r0 f1 r1 f2 r2 f3 r3 f4 r4 f5 r5 f6 r6 f7 r7 f8 r8 f9 r9 f10 r10 f11 r11
  have f0 := K0.out.at (i := 0) rfl
  have r0 := K1.out.at (i := 0) rfl
  have f1 := K0.out.at (i := 1) rfl
  have r1 := K1.out.at (i := 1) rfl
  have f2 := K0.out.at (i := 2) rfl
  have r2 := K1.out.at (i := 2) rfl
  have f3 := K0.out.at (i := 3) rfl
  have r3 := K1.out.at (i := 3) rfl
  have f4 := K0.out.at (i := 4) rfl
  have r4 := K1.out.at (i := 4) rfl
  have f5 := K0.out.at (i := 5) rfl
  have r5 := K1.out.at (i := 5) rfl
  have f6 := K0.out.at (i := 6) rfl
  have r6 := K1.out.at (i := 6) rfl
  have f7 := K0.out.at (i := 7) rfl
  have r7 := K1.out.at (i := 7) rfl
  have f8 := K0.out.at (i := 8) rfl
  have r8 := K1.out.at (i := 8) rfl
  have f9 := K0.out.at (i := 9) rfl
  have r9 := K1.out.at (i := 9) rfl
  have f10 := K0.out.at (i := 10) rfl
  have r10 := K1.out.at (i := 10) rfl
  have f11 := K0.out.at (i := 11) rfl
  have r11 := K1.out.at (i := 11) rfl
  clear hb2
  have hz2 := B2.out.size
  go_wp2_with fail
  go_ret
  exact ⟨rfl, (by repeat (first | refine Below.setCell ?_ (by dsimp only; omega) _ | refine Below.alloc ?_ (by first | (simp; done) | (simp; omega) | omega) _ | exact B2.out))⟩
end
section
open Go.RowKit

/-- the digits of a number ahead of a text -/
def ZN9 : Nat → Nat → List UInt8 → List UInt8
  | 0, _, acc => acc
  | f + 1, k, acc => if k = 0 then acc else ZN9 f (k / 10) ((48 + UInt8.ofNat (k % 10)) :: acc)
def ZPD (k : Nat) : ByteArray := ⟨(109 :: ZN9 (k + 1) k []).toArray⟩

/-- 'string([]byte{b})' -/
theorem ZN6 (W : World) (z : Int) : (convert 145 9 (.slice (some ⟨W.heap.size, 0, none⟩) 1 1)).run Tryz.prog (W.alloc (.cells #[.int .u8 z] 5)) = .ok (.string ⟨#[UInt8.ofNat z.toNat]⟩) (W.alloc (.cells #[.int .u8 z] 5)) := by
  rw [run_convert_bytes_string _ _ _ _ _ _ _ Tryz.underlying145 Tryz.underlying5 Tryz.underlying9, run_bytesToString _ _ _ _ [z] (by simp [loadCells, go_sem])]
  rfl

set_option maxHeartbeats 800000 in
set_option maxRecDepth 100000 in
theorem ZPa (k : Nat) (w : World) (h0 : 1 ≤ k) (h1 : k ≤ 4611686018427387904) :
    Calls Tryz.prog 71 #[.int .i64 k] w fun e w' => e = .returned (.string (ZPD k)) ∧ Below w.heap.size w w' := by
  have hle : ¬ ((k : Int) ≤ 0) := by omega
  have kc := ZN6
  go_enter Tryz.func71, Tryz.ntmps71
  go_wp2
  go_loopw [0, 3] (fun i s wr => ∃ (f q : Nat) (acc : List UInt8), i = .int .i64 q ∧ s = .string ⟨acc.toArray⟩ ∧ q ≤ k ∧ q < f ∧ acc.length + q ≤ k ∧ Hid (ZN9 f q acc = ZN9 (k + 1) k []) ∧ Hid (Below w.heap.size w wr)) (fun i _ _ => (intOf i).toNat)
  case atStart => exact ⟨k + 1, k, [], rfl, rfl, Nat.le_refl _, by omega, by simp, Lib.hid rfl, Below.refl _ _⟩
  case round =>
    obtain ⟨f, q, acc, rfl, rfl, hqk, hqf, hal, HE, HB⟩ := hrel
    by_cases hq : 0 < q
    · have hq' : (0 : Int) < q := by omega
      have HEn : Hid (ZN9 (f - 1) (q / 10) ((48 + UInt8.ofNat (q % 10)) :: acc) = ZN9 (k + 1) k []) := by
        rw [Hid, ← HE.out]
        obtain ⟨f, rfl⟩ : ∃ g, f = g + 1 := ⟨f - 1, by omega⟩
        rw [ZN9, if_neg (by omega)]; rfl
      go_wp2
      go_roundw
      case rel => exact ⟨f - 1, q / 10, _, by go_num, congrArg Value.string (by rw [ByteArray.mk_append_mk]; simp), by omega, by omega, by simp only [List.length_cons]; omega, HEn, HB.out.alloc HB.out.size _⟩
      case measure => simp [intOf]; omega
    · obtain rfl : q = 0 := by omega
      have e : Hid (ZN9 (k + 1) k [] = acc) := by
        rw [Hid, ← HE.out]
        obtain ⟨f, rfl⟩ : ∃ g, f = g + 1 := ⟨f - 1, by omega⟩
        simp [ZN9]
      have hq' : ¬ (0 : Int) < (0 : Nat) := by omega
      go_wp2
      go_ret
      exact ⟨congrArg (fun s => Ending.returned (.string s)) (by rw [ZPD, e.out, ByteArray.mk_append_mk]; simp), HB.out⟩
theorem ZPo : ∀ (f k : Nat) (acc : List UInt8), (ZN9 f k acc).length ≤ acc.length + f
  | 0, _, acc => by simp [ZN9]
  | f + 1, k, acc => by
    rw [ZN9]
    split
    · omega
    · have := ZPo f (k / 10) ((48 + UInt8.ofNat (k % 10)) :: acc)
      simp at this; omega
theorem ZPN (k : Nat) (h : k ≤ 4611686018427387904) : (ZPD k).size ≤ 9223372036854775807 := by
  have := ZPo (k + 1) k []
  simp [ZPD, ByteArray.size] at this ⊢
  omega
end
section
open Go.RowKit

def mTx (k : Int) : ByteArray := ZPD k.toNat
theorem ZLf (k : Int) (w : World) (h0 : 1 ≤ k) (h1 : k ≤ 4611686018427387904) :
    Calls Tryz.prog 71 #[.int .i64 k] w fun e w' => e = .returned (.string (mTx k)) ∧ Below w.heap.size w w' := by
  obtain ⟨n, rfl⟩ := Int.eq_ofNat_of_zero_le (show 0 ≤ k by omega)
  exact ZPa n w (by omega) (by omega)
theorem ZLW (k : Int) (h : k ≤ 4611686018427387904) : (mTx k).size ≤ 9223372036854775807 := ZPN _ (by omega)
def ZLp : Int → List ByteArray → List ByteArray
  | _, [] => []
  | k, _ :: r => mTx k :: ZLp (k + 1) r
def ZLY : Int → List Int → List Int
  | _, [] => []
  | k, _ :: r => k :: ZLY (k + 1) r
def Qs (k : Int) (l : List ByteArray) : Int := k + l.length
def ZLg (k : Int) (l : List Int) : Int := k + l.length
theorem ZLt (k : Int) (l : List ByteArray) : (ZLp k l).length = l.length := by induction l generalizing k with | nil => rfl | cons x r ih => simp [ZLp, ih]
theorem ZMu (k : Int) (l : List Int) : (ZLY k l).length = l.length := by induction l generalizing k with | nil => rfl | cons x r ih => simp [ZLY, ih]
theorem ZLj (k : Int) (l : List ByteArray) : k ≤ Qs k l := by unfold Qs; omega
theorem ZMp (k : Int) (l : List Int) : k ≤ ZLg k l := by unfold ZLg; omega
theorem ZL3 (k : Int) (l : List ByteArray) : Qs k l ≤ k + 16 * Zkn l := by unfold Qs Zkn; omega
theorem ZN1 (k : Int) (l : List Int) : ZLg k l ≤ k + 16 * l.length := by unfold ZLg; omega
def ZM8 (k : Int) (x : Za) : Za := ⟨mTx (k), ZLp (k + 1) x.args⟩
def ZLL (k : Int) (x : Za) : Int := Qs (k + 1) x.args
def ZLK : Int → List Za → List Za
  | _, [] => []
  | k, x :: r => ZM8 k x :: ZLK (ZLL k x) r
def ZLl : Int → List Za → Int
  | k, [] => k
  | k, x :: r => ZLl (ZLL k x) r
theorem ZMd (k : Int) (l : List Za) : (ZLK k l).length = l.length := by induction l generalizing k with | nil => rfl | cons x r ih => simp [ZLK, ih]
theorem ZM7 (k : Int) (x : Za) : k ≤ ZLL k x := by
  unfold ZLL
  have := ZLj (k + 1) x.args
  omega
theorem ZLT (k : Int) (l : List Za) : k ≤ ZLl k l := by
  induction l generalizing k with
  | nil => exact Int.le_refl _
  | cons x r ih => exact Int.le_trans (ZM7 k x) (ih _)
theorem ZPs (k : Int) (x : Za) : ZLL k x ≤ k + 1 + 16 * ZaK x := by
  unfold ZLL
  have := ZL3 (k + 1) x.args
  simp only [ZaK]
  omega
theorem ZMV (k : Int) (l : List Za) : ZLl k l ≤ k + 16 * ZcO l := by
  induction l generalizing k with
  | nil => simp [ZLl, ZcO]
  | cons x r ih =>
    have h1 := ZPs k x
    have h2 := ih (ZLL k x)
    simp only [ZLl, ZcO, List.length_cons, List.map_cons, List.sum_cons] at h2 ⊢
    omega

def ZNx (k : Int) (x : Zx) : Zx := ⟨mTx (k), mTx (k + 1)⟩
def ZLN (k : Int) (x : Zx) : Int := k + 1 + 1
def ZL1 : Int → List Zx → List Zx
  | _, [] => []
  | k, x :: r => ZNx k x :: ZL1 (ZLN k x) r
def ZLE : Int → List Zx → Int
  | k, [] => k
  | k, x :: r => ZLE (ZLN k x) r
theorem ZM9 (k : Int) (l : List Zx) : (ZL1 k l).length = l.length := by induction l generalizing k with | nil => rfl | cons x r ih => simp [ZL1, ih]
theorem ZNd (k : Int) (x : Zx) : k ≤ ZLN k x := by
  unfold ZLN
  omega
theorem ZMr (k : Int) (l : List Zx) : k ≤ ZLE k l := by
  induction l generalizing k with
  | nil => exact Int.le_refl _
  | cons x r ih => exact Int.le_trans (ZNd k x) (ih _)
theorem ZPn (k : Int) (x : Zx) : ZLN k x ≤ k + 2 + 16 * ZOl x := by
  unfold ZLN
  simp only [ZOl]
  omega
theorem ZO1 (k : Int) (l : List Zx) : ZLE k l ≤ k + 16 * ZNp l := by
  induction l generalizing k with
  | nil => simp [ZLE, ZNp]
  | cons x r ih =>
    have h1 := ZPn k x
    have h2 := ih (ZLN k x)
    simp only [ZLE, ZNp, List.length_cons, List.map_cons, List.sum_cons] at h2 ⊢
    omega

def ZNh (k : Int) (x : Zu) : Zu := ⟨(k), ⟨mTx (k + 1), ZLp (k + 1 + 1) x.pattern.args⟩, mTx (Qs (k + 1 + 1) x.pattern.args), mTx (Qs (k + 1 + 1) x.pattern.args + 1)⟩
def ZLO (k : Int) (x : Zu) : Int := Qs (k + 1 + 1) x.pattern.args + 1 + 1
def ZL0 : Int → List Zu → List Zu
  | _, [] => []
  | k, x :: r => ZNh k x :: ZL0 (ZLO k x) r
def ZLo : Int → List Zu → Int
  | k, [] => k
  | k, x :: r => ZLo (ZLO k x) r
theorem ZNm (k : Int) (l : List Zu) : (ZL0 k l).length = l.length := by induction l generalizing k with | nil => rfl | cons x r ih => simp [ZL0, ih]
theorem ZNf (k : Int) (x : Zu) : k ≤ ZLO k x := by
  unfold ZLO
  have := ZLj (k + 1 + 1) x.pattern.args
  omega
theorem ZMt (k : Int) (l : List Zu) : k ≤ ZLo k l := by
  induction l generalizing k with
  | nil => exact Int.le_refl _
  | cons x r ih => exact Int.le_trans (ZNf k x) (ih _)
theorem ZPG (k : Int) (x : Zu) : ZLO k x ≤ k + 4 + 16 * ZNg x := by
  unfold ZLO
  have := ZL3 (k + 1 + 1) x.pattern.args
  simp only [ZNg, ZMh]
  omega
theorem ZO2 (k : Int) (l : List Zu) : ZLo k l ≤ k + 16 * ZNq l := by
  induction l generalizing k with
  | nil => simp [ZLo, ZNq]
  | cons x r ih =>
    have h1 := ZPG k x
    have h2 := ih (ZLO k x)
    simp only [ZLo, ZNq, List.length_cons, List.map_cons, List.sum_cons] at h2 ⊢
    omega

def ZMy (k : Int) (x : Zy) : Zy := ⟨(k), ⟨mTx (k + 1), ZLp (k + 1 + 1) x.pattern.args⟩⟩
def ZLu (k : Int) (x : Zy) : Int := Qs (k + 1 + 1) x.pattern.args
def ZLJ : Int → List Zy → List Zy
  | _, [] => []
  | k, x :: r => ZMy k x :: ZLJ (ZLu k x) r
def ZLn : Int → List Zy → Int
  | k, [] => k
  | k, x :: r => ZLn (ZLu k x) r
theorem ZMM (k : Int) (l : List Zy) : (ZLJ k l).length = l.length := by induction l generalizing k with | nil => rfl | cons x r ih => simp [ZLJ, ih]
theorem ZMP (k : Int) (x : Zy) : k ≤ ZLu k x := by
  unfold ZLu
  have := ZLj (k + 1 + 1) x.pattern.args
  omega
theorem ZMf (k : Int) (l : List Zy) : k ≤ ZLn k l := by
  induction l generalizing k with
  | nil => exact Int.le_refl _
  | cons x r ih => exact Int.le_trans (ZMP k x) (ih _)
theorem ZOG (k : Int) (x : Zy) : ZLu k x ≤ k + 2 + 16 * ZNF x := by
  unfold ZLu
  have := ZL3 (k + 1 + 1) x.pattern.args
  simp only [ZNF, ZMh]
  omega
theorem ZOs (k : Int) (l : List Zy) : ZLn k l ≤ k + 16 * ZMK l := by
  induction l generalizing k with
  | nil => simp [ZLn, ZMK]
  | cons x r ih =>
    have h1 := ZOG k x
    have h2 := ih (ZLu k x)
    simp only [ZLn, ZMK, List.length_cons, List.map_cons, List.sum_cons] at h2 ⊢
    omega

def ZM5 (k : Int) (x : Zf) : Zf := ⟨mTx (k), (k + 1), ZL0 (k + 1 + 1) x.cond, ZLJ (ZLo (k + 1 + 1) x.cond) x.thn⟩
def ZLP (k : Int) (x : Zf) : Int := ZLn (ZLo (k + 1 + 1) x.cond) x.thn
def ZLy : Int → List Zf → List Zf
  | _, [] => []
  | k, x :: r => ZM5 k x :: ZLy (ZLP k x) r
def ZLc : Int → List Zf → Int
  | k, [] => k
  | k, x :: r => ZLc (ZLP k x) r
theorem ZMw (k : Int) (l : List Zf) : (ZLy k l).length = l.length := by induction l generalizing k with | nil => rfl | cons x r ih => simp [ZLy, ih]
theorem ZNe (k : Int) (x : Zf) : k ≤ ZLP k x := by
  unfold ZLP
  have := ZMt (k + 1 + 1) x.cond
  have := ZMf (ZLo (k + 1 + 1) x.cond) x.thn
  omega
theorem ZMa (k : Int) (l : List Zf) : k ≤ ZLc k l := by
  induction l generalizing k with
  | nil => exact Int.le_refl _
  | cons x r ih => exact Int.le_trans (ZNe k x) (ih _)
theorem ZPk (k : Int) (x : Zf) : ZLP k x ≤ k + 2 + 16 * ZOz x := by
  unfold ZLP
  have := ZO2 (k + 1 + 1) x.cond
  have := ZOs (ZLo (k + 1 + 1) x.cond) x.thn
  simp only [ZOz]
  omega
theorem ZNN (k : Int) (l : List Zf) : ZLc k l ≤ k + 16 * ZMT l := by
  induction l generalizing k with
  | nil => simp [ZLc, ZMT]
  | cons x r ih =>
    have h1 := ZPk k x
    have h2 := ih (ZLP k x)
    simp only [ZLc, ZMT, List.length_cons, List.map_cons, List.sum_cons] at h2 ⊢
    omega

def ZMD (k : Int) (x : Zw) : Zw := ⟨ZLK (k) x.facts, ZL1 (ZLl (k) x.facts) x.binding⟩
def ZLA (k : Int) (x : Zw) : Int := ZLE (ZLl (k) x.facts) x.binding
def ZLU : Int → List Zw → List Zw
  | _, [] => []
  | k, x :: r => ZMD k x :: ZLU (ZLA k x) r
def ZLr : Int → List Zw → Int
  | k, [] => k
  | k, x :: r => ZLr (ZLA k x) r
theorem ZMW (k : Int) (l : List Zw) : (ZLU k l).length = l.length := by induction l generalizing k with | nil => rfl | cons x r ih => simp [ZLU, ih]
theorem ZM1 (k : Int) (x : Zw) : k ≤ ZLA k x := by
  unfold ZLA
  have := ZLT (k) x.facts
  have := ZMr (ZLl (k) x.facts) x.binding
  omega
theorem ZMo (k : Int) (l : List Zw) : k ≤ ZLr k l := by
  induction l generalizing k with
  | nil => exact Int.le_refl _
  | cons x r ih => exact Int.le_trans (ZM1 k x) (ih _)
theorem ZPf (k : Int) (x : Zw) : ZLA k x ≤ k + 0 + 16 * ZNS x := by
  unfold ZLA
  have := ZMV (k) x.facts
  have := ZO1 (ZLl (k) x.facts) x.binding
  simp only [ZNS]
  omega
theorem ZOP (k : Int) (l : List Zw) : ZLr k l ≤ k + 16 * ZMU l := by
  induction l generalizing k with
  | nil => simp [ZLr, ZMU]
  | cons x r ih =>
    have h1 := ZPf k x
    have h2 := ih (ZLA k x)
    simp only [ZLr, ZMU, List.length_cons, List.map_cons, List.sum_cons] at h2 ⊢
    omega

def ZMF (k : Int) (x : ZL4) : ZL4 := ⟨⟨mTx (k), ZLp (k + 1) x.shape.args⟩, ZLK (Qs (k + 1) x.shape.args) x.facts⟩
def ZLz (k : Int) (x : ZL4) : Int := ZLl (Qs (k + 1) x.shape.args) x.facts
def ZLI : Int → List ZL4 → List ZL4
  | _, [] => []
  | k, x :: r => ZMF k x :: ZLI (ZLz k x) r
def ZLe : Int → List ZL4 → Int
  | k, [] => k
  | k, x :: r => ZLe (ZLz k x) r
theorem ZME (k : Int) (l : List ZL4) : (ZLI k l).length = l.length := by induction l generalizing k with | nil => rfl | cons x r ih => simp [ZLI, ih]
theorem ZM0 (k : Int) (x : ZL4) : k ≤ ZLz k x := by
  unfold ZLz
  have := ZLj (k + 1) x.shape.args
  have := ZLT (Qs (k + 1) x.shape.args) x.facts
  omega
theorem ZMm (k : Int) (l : List ZL4) : k ≤ ZLe k l := by
  induction l generalizing k with
  | nil => exact Int.le_refl _
  | cons x r ih => exact Int.le_trans (ZM0 k x) (ih _)
theorem ZO5 (k : Int) (x : ZL4) : ZLz k x ≤ k + 1 + 16 * ZNV x := by
  unfold ZLz
  have := ZL3 (k + 1) x.shape.args
  have := ZMV (Qs (k + 1) x.shape.args) x.facts
  simp only [ZNV, ZMh]
  omega
theorem ZOH (k : Int) (l : List ZL4) : ZLe k l ≤ k + 16 * ZMY l := by
  induction l generalizing k with
  | nil => simp [ZLe, ZMY]
  | cons x r ih =>
    have h1 := ZO5 k x
    have h2 := ih (ZLz k x)
    simp only [ZLe, ZMY, List.length_cons, List.map_cons, List.sum_cons] at h2 ⊢
    omega

def ZMZ (k : Int) (x : ZMe) : ZMe := ⟨(k), ⟨(k + 1), ⟨mTx (k + 1 + 1), ZLp (k + 1 + 1 + 1) x.cond.pattern.args⟩, mTx (Qs (k + 1 + 1 + 1) x.cond.pattern.args), mTx (Qs (k + 1 + 1 + 1) x.cond.pattern.args + 1)⟩, (Qs (k + 1 + 1 + 1) x.cond.pattern.args + 1 + 1), ZLU (Qs (k + 1 + 1 + 1) x.cond.pattern.args + 1 + 1 + 1) x.tokens⟩
def ZLM (k : Int) (x : ZMe) : Int := ZLr (Qs (k + 1 + 1 + 1) x.cond.pattern.args + 1 + 1 + 1) x.tokens
def ZLR : Int → List ZMe → List ZMe
  | _, [] => []
  | k, x :: r => ZMZ k x :: ZLR (ZLM k x) r
def ZLk : Int → List ZMe → Int
  | k, [] => k
  | k, x :: r => ZLk (ZLM k x) r
theorem ZMH (k : Int) (l : List ZMe) : (ZLR k l).length = l.length := by induction l generalizing k with | nil => rfl | cons x r ih => simp [ZLR, ih]
theorem ZNi (k : Int) (x : ZMe) : k ≤ ZLM k x := by
  unfold ZLM
  have := ZLj (k + 1 + 1 + 1) x.cond.pattern.args
  have := ZMo (Qs (k + 1 + 1 + 1) x.cond.pattern.args + 1 + 1 + 1) x.tokens
  omega
theorem ZMs (k : Int) (l : List ZMe) : k ≤ ZLk k l := by
  induction l generalizing k with
  | nil => exact Int.le_refl _
  | cons x r ih => exact Int.le_trans (ZNi k x) (ih _)
theorem ZPz (k : Int) (x : ZMe) : ZLM k x ≤ k + 6 + 16 * ZOE x := by
  unfold ZLM
  have := ZL3 (k + 1 + 1 + 1) x.cond.pattern.args
  have := ZOP (Qs (k + 1 + 1 + 1) x.cond.pattern.args + 1 + 1 + 1) x.tokens
  simp only [ZOE, ZNg, ZMh]
  omega
theorem ZPc (k : Int) (l : List ZMe) : ZLk k l ≤ k + 16 * ZNo l := by
  induction l generalizing k with
  | nil => simp [ZLk, ZNo]
  | cons x r ih =>
    have h1 := ZPz k x
    have h2 := ih (ZLM k x)
    simp only [ZLk, ZNo, List.length_cons, List.map_cons, List.sum_cons] at h2 ⊢
    omega

def ZML (k : Int) (x : ZL5) : ZL5 := ⟨⟨mTx (k), ZLp (k + 1) x.fact.args⟩, (Qs (k + 1) x.fact.args)⟩
def ZLB (k : Int) (x : ZL5) : Int := Qs (k + 1) x.fact.args + 1
def ZLH : Int → List ZL5 → List ZL5
  | _, [] => []
  | k, x :: r => ZML k x :: ZLH (ZLB k x) r
def ZLd : Int → List ZL5 → Int
  | k, [] => k
  | k, x :: r => ZLd (ZLB k x) r
theorem ZMB (k : Int) (l : List ZL5) : (ZLH k l).length = l.length := by induction l generalizing k with | nil => rfl | cons x r ih => simp [ZLH, ih]
theorem ZM3 (k : Int) (x : ZL5) : k ≤ ZLB k x := by
  unfold ZLB
  have := ZLj (k + 1) x.fact.args
  omega
theorem ZMl (k : Int) (l : List ZL5) : k ≤ ZLd k l := by
  induction l generalizing k with
  | nil => exact Int.le_refl _
  | cons x r ih => exact Int.le_trans (ZM3 k x) (ih _)
theorem ZPj (k : Int) (x : ZL5) : ZLB k x ≤ k + 2 + 16 * ZNU x := by
  unfold ZLB
  have := ZL3 (k + 1) x.fact.args
  simp only [ZNU, ZaK]
  omega
theorem ZOT (k : Int) (l : List ZL5) : ZLd k l ≤ k + 16 * ZMX l := by
  induction l generalizing k with
  | nil => simp [ZLd, ZMX]
  | cons x r ih =>
    have h1 := ZPj k x
    have h2 := ih (ZLB k x)
    simp only [ZLd, ZMX, List.length_cons, List.map_cons, List.sum_cons] at h2 ⊢
    omega

def ZMx (k : Int) (x : ZLS) : ZLS := ⟨mTx (k), ZLY (k + 1) x.times⟩
def ZLs (k : Int) (x : ZLS) : Int := ZLg (k + 1) x.times
def ZLw : Int → List ZLS → List ZLS
  | _, [] => []
  | k, x :: r => ZMx k x :: ZLw (ZLs k x) r
def ZLi : Int → List ZLS → Int
  | k, [] => k
  | k, x :: r => ZLi (ZLs k x) r
theorem ZMv (k : Int) (l : List ZLS) : (ZLw k l).length = l.length := by induction l generalizing k with | nil => rfl | cons x r ih => simp [ZLw, ih]
theorem ZMS (k : Int) (x : ZLS) : k ≤ ZLs k x := by
  unfold ZLs
  have := ZMp (k + 1) x.times
  omega
theorem ZMi (k : Int) (l : List ZLS) : k ≤ ZLi k l := by
  induction l generalizing k with
  | nil => exact Int.le_refl _
  | cons x r ih => exact Int.le_trans (ZMS k x) (ih _)
theorem ZOS (k : Int) (x : ZLS) : ZLs k x ≤ k + 1 + 16 * ZND x := by
  unfold ZLs
  have := ZN1 (k + 1) x.times
  simp only [ZND]
  omega
theorem ZOn (k : Int) (l : List ZLS) : ZLi k l ≤ k + 16 * ZMI l := by
  induction l generalizing k with
  | nil => simp [ZLi, ZMI]
  | cons x r ih =>
    have h1 := ZOS k x
    have h2 := ih (ZLs k x)
    simp only [ZLi, ZMI, List.length_cons, List.map_cons, List.sum_cons] at h2 ⊢
    omega

def ZMJ (k : Int) (x : ZL6) : ZL6 := ⟨(k), mTx (k + 1), ⟨mTx (k + 1 + 1), ZLp (k + 1 + 1 + 1) x.fact.args⟩⟩
def ZLF (k : Int) (x : ZL6) : Int := Qs (k + 1 + 1 + 1) x.fact.args
def ZLG : Int → List ZL6 → List ZL6
  | _, [] => []
  | k, x :: r => ZMJ k x :: ZLG (ZLF k x) r
def ZLv : Int → List ZL6 → Int
  | k, [] => k
  | k, x :: r => ZLv (ZLF k x) r
theorem ZMC (k : Int) (l : List ZL6) : (ZLG k l).length = l.length := by induction l generalizing k with | nil => rfl | cons x r ih => simp [ZLG, ih]
theorem ZM2 (k : Int) (x : ZL6) : k ≤ ZLF k x := by
  unfold ZLF
  have := ZLj (k + 1 + 1 + 1) x.fact.args
  omega
theorem ZMn (k : Int) (l : List ZL6) : k ≤ ZLv k l := by
  induction l generalizing k with
  | nil => exact Int.le_refl _
  | cons x r ih => exact Int.le_trans (ZM2 k x) (ih _)
theorem ZO4 (k : Int) (x : ZL6) : ZLF k x ≤ k + 3 + 16 * ZNT x := by
  unfold ZLF
  have := ZL3 (k + 1 + 1 + 1) x.fact.args
  simp only [ZNT, ZaK]
  omega
theorem ZOJ (k : Int) (l : List ZL6) : ZLv k l ≤ k + 16 * ZM4 l := by
  induction l generalizing k with
  | nil => simp [ZLv, ZM4]
  | cons x r ih =>
    have h1 := ZO4 k x
    have h2 := ih (ZLF k x)
    simp only [ZLv, ZM4, List.length_cons, List.map_cons, List.sum_cons] at h2 ⊢
    omega
end
section
open Go.RowKit

theorem ZMc {w w1 : World} {g : Nat} {t : TypeId} {cs : Array Value} {M : List Nat} (h : Blk w g t cs) (ho : ZLq M w w1) (hg : g ∉ M) : Blk w1 g t cs := (ho.block g h.lt hg).trans h

set_option maxHeartbeats 1600000 in
theorem ZLX (A : Option Addr) (n c : Nat) (ds : List ByteArray) (L : List Nat) (base : Nat) (k : Int) (w : World) (hn : n = ds.length) (hk0 : 1 ≤ k) (hk1 : Qs k ds ≤ 4611686018427387904) (h : Got (ZQ ZsX) base [.slice A n c] ds L w) :
    Calls Tryz.prog 74 #[.slice A n c, .int .i64 k] w fun e w' => e = .returned (.int .i64 (Qs k ds)) ∧ Got (ZQ ZsX) base [.slice A n c] (ZLp k ds) L w' ∧ ZLq L w w' := by
  have H := Lib.hid h
  have HN := Lib.hid hn
  have hk1' : k + n ≤ 4611686018427387904 := by simp only [Qs] at hk1; omega
  clear h hn hk1
  go_enter Tryz.func74, Tryz.ntmps74
  go_wp2
  go_loopw [1, 5] (fun q j wr => ∃ (i : Nat) (kk : Int) (D : List ByteArray), i ≤ n ∧ j = .int .i64 i ∧ q = .int .i64 kk ∧ 1 ≤ kk ∧ kk + (n - i : Nat) ≤ 4611686018427387904 ∧ Hid (kk = k + i ∧ D.length = i ∧ D ++ ZLp kk (ds.drop i) = ZLp k ds) ∧ Hid (Got (ZQ ZsX) base [.slice A n c] (D ++ ds.drop i) L wr) ∧ Hid (ZLq L w wr)) (fun _ j _ => n - (intOf j).toNat)
  case atStart => exact ⟨0, k, [], Nat.zero_le _, rfl, rfl, hk0, by omega, ⟨by omega, rfl, rfl⟩, H.out, ZLq.refl _ _⟩
  case round =>
    obtain ⟨i, kk, D, hi, rfl, rfl, h1, h2, HD, HG, HO⟩ := hrel
    by_cases hlt : i < n
    · have hil : i < ds.length := by have := HN.out; omega
      obtain ⟨hkk, hDl, hDm⟩ := HD.out
      have hcl : i < (D ++ ds.drop i).length := by simp; omega
      obtain ⟨b, off, cs, Lk, rfl, hbL, hLk, hown, hrep, hcells, hput⟩ := HG.out.focus hcl
      obtain ⟨rfl, hlk, _⟩ := hrep
      have HEl := Lib.hid (ZMk.start (m := 1) hcells rfl hown)
      have hnext : Hid (ds.drop i = ds[i] :: ds.drop (i + 1)) := List.drop_eq_getElem_cons _
      have HPut := Lib.hid hput
      have HOwn := Lib.hid hown
      have HLk := Lib.hid hLk
      have HLe := Lib.hid hlk
      have HDn : Hid (kk + 1 = k + (i + 1 : Nat) ∧ (D ++ [mTx kk]).length = i + 1 ∧ (D ++ [mTx kk]) ++ ZLp (kk + 1) (ds.drop (i + 1)) = ZLp k ds) := by
        refine ⟨by omega, by simp [hDl], ?_⟩
        rw [← hDm, hnext.out]; simp [ZLp]
      have hset : Hid ((D ++ ds.drop i).set i (mTx kk) = (D ++ [mTx kk]) ++ ds.drop (i + 1)) := by
        rw [Hid, List.set_append_right _ _ (by omega), show i - D.length = 0 by omega, hnext.out, List.set_cons_zero]; simp
      clear hput hown hLk hcells hkk hDl hDm hlk
      simp only [show ZsX.size = 1 from rfl, Nat.mul_one] at HEl HPut
      go_wp2_with (go_at_call 71; refine (ZLf _ _ (by omega) (by omega)).mono ?_; rintro e w1 ⟨rfl, hb1⟩; have E1 := Lib.hid (HEl.out.later hb1); have q1 := E1.out.at (j := 0) rfl; have z1 := E1.out.frozen (off + i); clear hb1; simp only [Nat.add_zero] at q1)
      have E2 := Lib.hid (E1.out.set 0 (by omega) (.string (mTx kk)))
      have hO2 := Lib.hid (ZLD HOwn.out E2.out.plain E2.out.only (by rw [HLe.out]; simp))
      have HGn := Lib.hid (HPut.out _ _ (mTx kk) E2.out.only E2.out.cells E2.out.rest (by rw [HLe.out]; exact ⟨rfl, rfl, ZLW _ (by omega)⟩) hO2.out)
      have HOn := Lib.hid (HO.out.trans (E2.out.only.mono (fun y m => by rcases List.mem_cons.1 m with rfl | m; exact hbL; exact HLk.out y m)))
      rw [hset.out] at HGn
      simp only [Nat.add_zero] at HGn HOn
      clear E2 hO2 HPut
      go_wp2_with fail
      go_roundw
      case rel => exact ⟨i + 1, kk + 1, _, by omega, by go_num, rfl, by omega, by omega, HDn, HGn, HOn⟩
      case measure => simp [intOf]; omega
    · obtain rfl : i = n := by omega
      have hf : Hid (Qs k ds = kk ∧ D = ZLp k ds) := by
        obtain ⟨h1, h2, h3⟩ := HD.out
        have e : ds.drop i = [] := List.drop_of_length_le (by have := HN.out; omega)
        rw [e] at h3
        simp [ZLp] at h3
        exact ⟨by have := HN.out; simp only [Qs]; omega, h3⟩
      have e : Hid (ds.drop i = []) := List.drop_of_length_le (by have := HN.out; omega)
      rw [e.out, List.append_nil] at HG
      go_wp2
      go_ret
      exact ⟨ZL2 hf.out.1.symm, by rw [← hf.out.2]; exact HG.out, HO.out⟩

set_option maxHeartbeats 1600000 in
theorem ZNH (A : Option Addr) (n c : Nat) (ds : List Int) (L : List Nat) (base : Nat) (k : Int) (w : World) (hn : n = ds.length) (hk0 : 1 ≤ k) (hk1 : ZLg k ds ≤ 4611686018427387904) (h : Got (ZQ Zj7) base [.slice A n c] ds L w) :
    Calls Tryz.prog 38 #[.slice A n c, .int .i64 k] w fun e w' => e = .returned (.int .i64 (ZLg k ds)) ∧ Got (ZQ Zj7) base [.slice A n c] (ZLY k ds) L w' ∧ ZLq L w w' := by
  have H := Lib.hid h
  have HN := Lib.hid hn
  have hk1' : k + n ≤ 4611686018427387904 := by simp only [ZLg] at hk1; omega
  clear h hn hk1
  go_enter Tryz.func38, Tryz.ntmps38
  go_wp2
  go_loopw [1, 5] (fun q j wr => ∃ (i : Nat) (kk : Int) (D : List Int), i ≤ n ∧ j = .int .i64 i ∧ q = .int .i64 kk ∧ 1 ≤ kk ∧ kk + (n - i : Nat) ≤ 4611686018427387904 ∧ Hid (kk = k + i ∧ D.length = i ∧ D ++ ZLY kk (ds.drop i) = ZLY k ds) ∧ Hid (Got (ZQ Zj7) base [.slice A n c] (D ++ ds.drop i) L wr) ∧ Hid (ZLq L w wr)) (fun _ j _ => n - (intOf j).toNat)
  case atStart => exact ⟨0, k, [], Nat.zero_le _, rfl, rfl, hk0, by omega, ⟨by omega, rfl, rfl⟩, H.out, ZLq.refl _ _⟩
  case round =>
    obtain ⟨i, kk, D, hi, rfl, rfl, h1, h2, HD, HG, HO⟩ := hrel
    by_cases hlt : i < n
    · have hil : i < ds.length := by have := HN.out; omega
      obtain ⟨hkk, hDl, hDm⟩ := HD.out
      have hcl : i < (D ++ ds.drop i).length := by simp; omega
      obtain ⟨b, off, cs, Lk, rfl, hbL, hLk, hown, hrep, hcells, hput⟩ := HG.out.focus hcl
      obtain ⟨rfl, hlk⟩ := hrep
      have HEl := Lib.hid (ZMk.start (m := 1) hcells rfl hown)
      have hnext : Hid (ds.drop i = ds[i] :: ds.drop (i + 1)) := List.drop_eq_getElem_cons _
      have HPut := Lib.hid hput
      have HOwn := Lib.hid hown
      have HLk := Lib.hid hLk
      have HLe := Lib.hid hlk
      have HDn : Hid (kk + 1 = k + (i + 1 : Nat) ∧ (D ++ [kk]).length = i + 1 ∧ (D ++ [kk]) ++ ZLY (kk + 1) (ds.drop (i + 1)) = ZLY k ds) := by
        refine ⟨by omega, by simp [hDl], ?_⟩
        rw [← hDm, hnext.out]; simp [ZLY]
      have hset : Hid ((D ++ ds.drop i).set i (kk) = (D ++ [kk]) ++ ds.drop (i + 1)) := by
        rw [Hid, List.set_append_right _ _ (by omega), show i - D.length = 0 by omega, hnext.out, List.set_cons_zero]; simp
      clear hput hown hLk hcells hkk hDl hDm hlk
      simp only [show Zj7.size = 1 from rfl, Nat.mul_one] at HEl HPut
      have q1 := HEl.out.at (j := 0) rfl
      have z1 := HEl.out.frozen (off + i)
      simp only [Nat.add_zero] at q1
      go_wp2_with fail
      have E2 := Lib.hid (HEl.out.set 0 (by omega) (.int .i64 kk))
      have hO2 := Lib.hid (ZLD HOwn.out E2.out.plain E2.out.only (by rw [HLe.out]; simp))
      have HGn := Lib.hid (HPut.out _ _ (kk) E2.out.only E2.out.cells E2.out.rest (by rw [HLe.out]; exact ⟨rfl, rfl⟩) hO2.out)
      have HOn := Lib.hid (HO.out.trans (E2.out.only.mono (fun y m => by rcases List.mem_cons.1 m with rfl | m; exact hbL; exact HLk.out y m)))
      rw [hset.out] at HGn
      simp only [Nat.add_zero] at HGn HOn
      clear E2 hO2 HPut
      go_wp2_with fail
      go_roundw
      case rel => exact ⟨i + 1, kk + 1, _, by omega, by go_num, rfl, by omega, by omega, HDn, HGn, HOn⟩
      case measure => simp [intOf]; omega
    · obtain rfl : i = n := by omega
      have hf : Hid (ZLg k ds = kk ∧ D = ZLY k ds) := by
        obtain ⟨h1, h2, h3⟩ := HD.out
        have e : ds.drop i = [] := List.drop_of_length_le (by have := HN.out; omega)
        rw [e] at h3
        simp [ZLY] at h3
        exact ⟨by have := HN.out; simp only [ZLg]; omega, h3⟩
      have e : Hid (ds.drop i = []) := List.drop_of_length_le (by have := HN.out; omega)
      rw [e.out, List.append_nil] at HG
      go_wp2
      go_ret
      exact ⟨ZL2 hf.out.1.symm, by rw [← hf.out.2]; exact HG.out, HO.out⟩

set_option maxRecDepth 100000 in
set_option maxHeartbeats 4000000 in
theorem ZMO (A : Option Addr) (n c : Nat) (ds : List Za) (L : List Nat) (base : Nat) (k : Int) (w : World) (hn : n = ds.length) (hm : n ≤ 9223372036854775807) (hk0 : 1 ≤ k) (hk1 : ZLl k ds ≤ 4611686018427387904) (h : Got (ZQ Yf) base [.slice A n c] ds L w) :
    Calls Tryz.prog 41 #[.slice A n c, .int .i64 k] w fun e w' => e = .returned (.int .i64 (ZLl k ds)) ∧ Got (ZQ Yf) base [.slice A n c] (ZLK k ds) L w' ∧ ZLq L w w' := by
  have H := Lib.hid h
  have HN := Lib.hid hn
  have HK := Lib.hid hk1
  clear h hn hk1
  go_enter Tryz.func41, Tryz.ntmps41
  go_wp2
  go_loopw [1, 5] (fun q j wr => ∃ (i : Nat) (kk : Int) (D : List Za), i ≤ n ∧ j = .int .i64 i ∧ q = .int .i64 kk ∧ 1 ≤ kk ∧ Hid (ZLl kk (ds.drop i) = ZLl k ds ∧ D.length = i ∧ D ++ ZLK kk (ds.drop i) = ZLK k ds) ∧ Hid (Got (ZQ Yf) base [.slice A n c] (D ++ ds.drop i) L wr) ∧ Hid (ZLq L w wr)) (fun _ j _ => n - (intOf j).toNat)
  case atStart => exact ⟨0, k, [], Nat.zero_le _, rfl, rfl, hk0, ⟨rfl, rfl, rfl⟩, H.out, ZLq.refl _ _⟩
  case round =>
    obtain ⟨i, kk, D, hi, rfl, rfl, h1, HD, HG, HO⟩ := hrel
    by_cases hlt : i < n
    · have hil : i < ds.length := by have := HN.out; omega
      obtain ⟨hkk, hDl, hDm⟩ := HD.out
      have hcl : i < (D ++ ds.drop i).length := by simp; omega
      obtain ⟨b, off, cs, Lk, rfl, hbL, hLk, hown, hrep, hcells, hput⟩ := HG.out.focus hcl
      have hnext : Hid (ds.drop i = ds[i] :: ds.drop (i + 1)) := List.drop_eq_getElem_cons _
      have hxi : (D ++ ds.drop i)[i] = ds[i] := by
        rw [List.getElem_append_right (by omega)]; simp [hDl]
      rw [hxi] at hrep
      clear hxi
      generalize ds[i] = x at hrep hnext
      have hnb : Hid (ZLL kk x ≤ 4611686018427387904) := by
        have := ZLT (ZLL kk x) (ds.drop (i + 1))
        rw [hnext.out] at hkk
        have hk := HK.out
        rw [← hkk] at hk
        exact Int.le_trans this hk
      have hnb1 := hnb.out
      have hnb2 := ZM7 kk x
      unfold ZLL at hnb1 hnb2
      have HDn : Hid (ZLl (ZLL kk x) (ds.drop (i + 1)) = ZLl k ds ∧ (D ++ [ZM8 kk x]).length = i + 1 ∧ (D ++ [ZM8 kk x]) ++ ZLK (ZLL kk x) (ds.drop (i + 1)) = ZLK k ds) := by
        refine ⟨by rw [← hkk, hnext.out]; rfl, by simp [hDl], ?_⟩
        rw [← hDm, hnext.out]; simp [ZLK]
      have hset : Hid ((D ++ ds.drop i).set i (ZM8 kk x) = (D ++ [ZM8 kk x]) ++ ds.drop (i + 1)) := by
        rw [Hid, List.set_append_right _ _ (by omega), show i - D.length = 0 by omega, hnext.out, List.set_cons_zero]; simp
      obtain ⟨A1, c1, L1, rfl, hLL, t0, n1, m1, s1⟩ := hrep
      unfold maxLen at m1
      subst Lk
      have HEl := Lib.hid (ZMk.start (m := 2) hcells rfl hown)
      have hbn := Lib.hid hown.head
      have G1 : Hid (Got (ZQ ZsX) base [.slice A1 x.args.length c1] x.args L1 wr) := ⟨⟨A1, c1, rfl, n1, (by unfold maxLen; omega), s1⟩, hown.tail⟩
      have bn1 : Hid (b ∉ L1) := fun m => hown.head (by simp [m])
      have sb1 : Hid (∀ y ∈ L1, y ∈ L1) := fun y m => by simp [m]
      clear s1
      have HPut := Lib.hid hput
      have HOwn := Lib.hid hown
      have HLk := Lib.hid hLk
      clear hput hown hLk hcells hkk hDl hDm
      simp only [show Yf.size = 2 from rfl] at HEl HPut
      have q0 := HEl.out.at (j := 0) rfl
      have z0 := HEl.out.frozen (off + i * 2)
      have q1 := HEl.out.at (j := 1) rfl
      have z1 := HEl.out.frozen (off + i * 2 + 1)
      simp only [Nat.add_zero] at q0
      have gm0 : (0 : Int) ≤ 0 := by omega
      have mono_x_args := ZLj (kk + 1) x.args
      go_wp2_with fail
      refine (ZLf _ _ (by omega) (by omega)).mono ?_
      rintro e w1 ⟨rfl, hb1⟩
      have HEl := Lib.hid (HEl.out.later hb1)
      have G1 := Lib.hid (G1.out.later hb1)
      clear hb1
      clear q0 z0 q1 z1
      have q0 := HEl.out.at (j := 0) rfl
      have z0 := HEl.out.frozen (off + i * 2)
      have q1 := HEl.out.at (j := 1) rfl
      have z1 := HEl.out.frozen (off + i * 2 + 1)
      simp only [Nat.add_zero] at q0
      go_wp2_with fail
      have G1 := Lib.hid (G1.out.setFar (p := ⟨b, off + i * 2 + 0, none⟩) bn1.out (.string (mTx (kk))))
      refine (ZLX A1 _ c1 x.args L1 base _ _ rfl (by omega) (by omega) G1.out).mono ?_
      rintro e w2 ⟨rfl, g2, on2⟩
      have HEl := Lib.hid ((HEl.out.set 0 (by omega) (.string (mTx (kk)))).marked on2 sb1.out bn1.out)
      have G1 := Lib.hid g2
      clear g2 on2
      clear q0 z0 q1 z1
      have q0 := HEl.out.at (j := 0) rfl
      have z0 := HEl.out.frozen (off + i * 2)
      have q1 := HEl.out.at (j := 1) rfl
      have z1 := HEl.out.frozen (off + i * 2 + 1)
      simp only [Nat.add_zero] at q0
      obtain ⟨nn1, mm1, ss1⟩ := ZeR G1.out.rep
      have hO2 := Lib.hid (ZLD HOwn.out HEl.out.plain HEl.out.only (fun y m => by (try simp only [List.mem_append] at m) <;> (exact G1.out.own.plain y m)))
      have HGn := Lib.hid (HPut.out _ _ (ZM8 kk x) HEl.out.only HEl.out.cells HEl.out.rest ⟨A1, c1, L1, by simp [ZM8, ZLt], rfl, ZLW _ (by omega), nn1, mm1, ss1⟩ hO2.out)
      have HOn := Lib.hid (HO.out.trans (HEl.out.only.mono (fun y m => by rcases List.mem_cons.1 m with rfl | m; exact hbL; exact HLk.out y m)))
      rw [hset.out] at HGn
      try simp only [Nat.add_zero] at HGn HOn
      clear HEl hO2 HPut G1 nn1 mm1 ss1
      go_wp2_with fail
      go_roundw
      case rel => exact ⟨i + 1, ZLL kk x, _, by omega, by go_num, rfl, by unfold ZLL; omega, HDn, HGn, HOn⟩
      case measure => simp [intOf]; omega
    · obtain rfl : i = n := by omega
      have e : Hid (ds.drop i = []) := List.drop_of_length_le (by have := HN.out; omega)
      have hf : Hid (ZLl k ds = kk ∧ D = ZLK k ds) := by
        obtain ⟨h1, h2, h3⟩ := HD.out
        rw [e.out] at h3 h1
        simp [ZLK] at h3
        exact ⟨h1.symm, h3⟩
      rw [e.out, List.append_nil] at HG
      go_wp2
      go_ret
      exact ⟨ZL2 hf.out.1.symm, by rw [← hf.out.2]; exact HG.out, HO.out⟩

set_option maxRecDepth 100000 in
set_option maxHeartbeats 4000000 in
theorem ZOV (A : Option Addr) (n c : Nat) (ds : List Zx) (L : List Nat) (base : Nat) (k : Int) (w : World) (hn : n = ds.length) (hm : n ≤ 9223372036854775807) (hk0 : 1 ≤ k) (hk1 : ZLE k ds ≤ 4611686018427387904) (h : Got (ZQ ZDh) base [.slice A n c] ds L w) :
    Calls Tryz.prog 118 #[.slice A n c, .int .i64 k] w fun e w' => e = .returned (.int .i64 (ZLE k ds)) ∧ Got (ZQ ZDh) base [.slice A n c] (ZL1 k ds) L w' ∧ ZLq L w w' := by
  have H := Lib.hid h
  have HN := Lib.hid hn
  have HK := Lib.hid hk1
  clear h hn hk1
  go_enter Tryz.func118, Tryz.ntmps118
  go_wp2
  go_loopw [1, 5] (fun q j wr => ∃ (i : Nat) (kk : Int) (D : List Zx), i ≤ n ∧ j = .int .i64 i ∧ q = .int .i64 kk ∧ 1 ≤ kk ∧ Hid (ZLE kk (ds.drop i) = ZLE k ds ∧ D.length = i ∧ D ++ ZL1 kk (ds.drop i) = ZL1 k ds) ∧ Hid (Got (ZQ ZDh) base [.slice A n c] (D ++ ds.drop i) L wr) ∧ Hid (ZLq L w wr)) (fun _ j _ => n - (intOf j).toNat)
  case atStart => exact ⟨0, k, [], Nat.zero_le _, rfl, rfl, hk0, ⟨rfl, rfl, rfl⟩, H.out, ZLq.refl _ _⟩
  case round =>
    obtain ⟨i, kk, D, hi, rfl, rfl, h1, HD, HG, HO⟩ := hrel
    by_cases hlt : i < n
    · have hil : i < ds.length := by have := HN.out; omega
      obtain ⟨hkk, hDl, hDm⟩ := HD.out
      have hcl : i < (D ++ ds.drop i).length := by simp; omega
      obtain ⟨b, off, cs, Lk, rfl, hbL, hLk, hown, hrep, hcells, hput⟩ := HG.out.focus hcl
      have hnext : Hid (ds.drop i = ds[i] :: ds.drop (i + 1)) := List.drop_eq_getElem_cons _
      have hxi : (D ++ ds.drop i)[i] = ds[i] := by
        rw [List.getElem_append_right (by omega)]; simp [hDl]
      rw [hxi] at hrep
      clear hxi
      generalize ds[i] = x at hrep hnext
      have hnb : Hid (ZLN kk x ≤ 4611686018427387904) := by
        have := ZMr (ZLN kk x) (ds.drop (i + 1))
        rw [hnext.out] at hkk
        have hk := HK.out
        rw [← hkk] at hk
        exact Int.le_trans this hk
      have hnb1 := hnb.out
      have hnb2 := ZNd kk x
      unfold ZLN at hnb1 hnb2
      have HDn : Hid (ZLE (ZLN kk x) (ds.drop (i + 1)) = ZLE k ds ∧ (D ++ [ZNx kk x]).length = i + 1 ∧ (D ++ [ZNx kk x]) ++ ZL1 (ZLN kk x) (ds.drop (i + 1)) = ZL1 k ds) := by
        refine ⟨by rw [← hkk, hnext.out]; rfl, by simp [hDl], ?_⟩
        rw [← hDm, hnext.out]; simp [ZL1]
      have hset : Hid ((D ++ ds.drop i).set i (ZNx kk x) = (D ++ [ZNx kk x]) ++ ds.drop (i + 1)) := by
        rw [Hid, List.set_append_right _ _ (by omega), show i - D.length = 0 by omega, hnext.out, List.set_cons_zero]; simp
      obtain ⟨rfl, hLL, t0, t1⟩ := hrep
      subst hLL
      have HEl := Lib.hid (ZMk.start (m := 2) hcells rfl hown)
      have hbn := Lib.hid hown.head
      have HPut := Lib.hid hput
      have HOwn := Lib.hid hown
      have HLk := Lib.hid hLk
      clear hput hown hLk hcells hkk hDl hDm
      simp only [show ZDh.size = 2 from rfl] at HEl HPut
      have q0 := HEl.out.at (j := 0) rfl
      have z0 := HEl.out.frozen (off + i * 2)
      have q1 := HEl.out.at (j := 1) rfl
      have z1 := HEl.out.frozen (off + i * 2 + 1)
      simp only [Nat.add_zero] at q0
      have gm0 : (0 : Int) ≤ 0 := by omega
      go_wp2_with fail
      refine (ZLf _ _ (by omega) (by omega)).mono ?_
      rintro e w1 ⟨rfl, hb1⟩
      have HEl := Lib.hid (HEl.out.later hb1)
      clear hb1
      clear q0 z0 q1 z1
      have q0 := HEl.out.at (j := 0) rfl
      have z0 := HEl.out.frozen (off + i * 2)
      have q1 := HEl.out.at (j := 1) rfl
      have z1 := HEl.out.frozen (off + i * 2 + 1)
      simp only [Nat.add_zero] at q0
      go_wp2_with fail
      refine (ZLf _ _ (by omega) (by omega)).mono ?_
      rintro e w2 ⟨rfl, hb2⟩
      have HEl := Lib.hid ((HEl.out.set 0 (by omega) (.string (mTx (kk)))).later hb2)
      clear hb2
      clear q0 z0 q1 z1
      have q0 := HEl.out.at (j := 0) rfl
      have z0 := HEl.out.frozen (off + i * 2)
      have q1 := HEl.out.at (j := 1) rfl
      have z1 := HEl.out.frozen (off + i * 2 + 1)
      simp only [Nat.add_zero] at q0
      have HEl := Lib.hid (HEl.out.set 1 (by omega) (.string (mTx (kk + 1))))
      have hO2 := Lib.hid (ZLD HOwn.out HEl.out.plain HEl.out.only (fun y m => by (try simp only [List.mem_append, List.not_mem_nil] at m) <;> (exact m.elim)))
      have HGn := Lib.hid (HPut.out _ _ (ZNx kk x) HEl.out.only HEl.out.cells HEl.out.rest ⟨by simp [ZNx], rfl, ZLW _ (by omega), ZLW _ (by omega)⟩ hO2.out)
      have HOn := Lib.hid (HO.out.trans (HEl.out.only.mono (fun y m => by rcases List.mem_cons.1 m with rfl | m; exact hbL; exact HLk.out y m)))
      rw [hset.out] at HGn
      try simp only [Nat.add_zero] at HGn HOn
      clear HEl hO2 HPut
      go_wp2_with fail
      go_roundw
      case rel => exact ⟨i + 1, ZLN kk x, _, by omega, by go_num, rfl, by unfold ZLN; omega, HDn, HGn, HOn⟩
      case measure => simp [intOf]; omega
    · obtain rfl : i = n := by omega
      have e : Hid (ds.drop i = []) := List.drop_of_length_le (by have := HN.out; omega)
      have hf : Hid (ZLE k ds = kk ∧ D = ZL1 k ds) := by
        obtain ⟨h1, h2, h3⟩ := HD.out
        rw [e.out] at h3 h1
        simp [ZL1] at h3
        exact ⟨h1.symm, h3⟩
      rw [e.out, List.append_nil] at HG
      go_wp2
      go_ret
      exact ⟨ZL2 hf.out.1.symm, by rw [← hf.out.2]; exact HG.out, HO.out⟩

set_option maxRecDepth 100000 in
set_option maxHeartbeats 4000000 in
theorem ZOO (A : Option Addr) (n c : Nat) (ds : List Zu) (L : List Nat) (base : Nat) (k : Int) (w : World) (hn : n = ds.length) (hm : n ≤ 9223372036854775807) (hk0 : 1 ≤ k) (hk1 : ZLo k ds ≤ 4611686018427387904) (h : Got (ZQ ZC9) base [.slice A n c] ds L w) :
    Calls Tryz.prog 72 #[.slice A n c, .int .i64 k] w fun e w' => e = .returned (.int .i64 (ZLo k ds)) ∧ Got (ZQ ZC9) base [.slice A n c] (ZL0 k ds) L w' ∧ ZLq L w w' := by
  have H := Lib.hid h
  have HN := Lib.hid hn
  have HK := Lib.hid hk1
  clear h hn hk1
  go_enter Tryz.func72, Tryz.ntmps72
  go_wp2
  go_loopw [1, 5] (fun q j wr => ∃ (i : Nat) (kk : Int) (D : List Zu), i ≤ n ∧ j = .int .i64 i ∧ q = .int .i64 kk ∧ 1 ≤ kk ∧ Hid (ZLo kk (ds.drop i) = ZLo k ds ∧ D.length = i ∧ D ++ ZL0 kk (ds.drop i) = ZL0 k ds) ∧ Hid (Got (ZQ ZC9) base [.slice A n c] (D ++ ds.drop i) L wr) ∧ Hid (ZLq L w wr)) (fun _ j _ => n - (intOf j).toNat)
  case atStart => exact ⟨0, k, [], Nat.zero_le _, rfl, rfl, hk0, ⟨rfl, rfl, rfl⟩, H.out, ZLq.refl _ _⟩
  case round =>
    obtain ⟨i, kk, D, hi, rfl, rfl, h1, HD, HG, HO⟩ := hrel
    by_cases hlt : i < n
    · have hil : i < ds.length := by have := HN.out; omega
      obtain ⟨hkk, hDl, hDm⟩ := HD.out
      have hcl : i < (D ++ ds.drop i).length := by simp; omega
      obtain ⟨b, off, cs, Lk, rfl, hbL, hLk, hown, hrep, hcells, hput⟩ := HG.out.focus hcl
      have hnext : Hid (ds.drop i = ds[i] :: ds.drop (i + 1)) := List.drop_eq_getElem_cons _
      have hxi : (D ++ ds.drop i)[i] = ds[i] := by
        rw [List.getElem_append_right (by omega)]; simp [hDl]
      rw [hxi] at hrep
      clear hxi
      generalize ds[i] = x at hrep hnext
      have hnb : Hid (ZLO kk x ≤ 4611686018427387904) := by
        have := ZMt (ZLO kk x) (ds.drop (i + 1))
        rw [hnext.out] at hkk
        have hk := HK.out
        rw [← hkk] at hk
        exact Int.le_trans this hk
      have hnb1 := hnb.out
      have hnb2 := ZNf kk x
      unfold ZLO at hnb1 hnb2
      have HDn : Hid (ZLo (ZLO kk x) (ds.drop (i + 1)) = ZLo k ds ∧ (D ++ [ZNh kk x]).length = i + 1 ∧ (D ++ [ZNh kk x]) ++ ZL0 (ZLO kk x) (ds.drop (i + 1)) = ZL0 k ds) := by
        refine ⟨by rw [← hkk, hnext.out]; rfl, by simp [hDl], ?_⟩
        rw [← hDm, hnext.out]; simp [ZL0]
      have hset : Hid ((D ++ ds.drop i).set i (ZNh kk x) = (D ++ [ZNh kk x]) ++ ds.drop (i + 1)) := by
        rw [Hid, List.set_append_right _ _ (by omega), show i - D.length = 0 by omega, hnext.out, List.set_cons_zero]; simp
      obtain ⟨A1, c1, L1, rfl, hLL, t0, t1, t2, n1, m1, s1⟩ := hrep
      unfold maxLen at m1
      subst Lk
      have HEl := Lib.hid (ZMk.start (m := 5) hcells rfl hown)
      have hbn := Lib.hid hown.head
      have G1 : Hid (Got (ZQ ZsX) base [.slice A1 x.pattern.args.length c1] x.pattern.args L1 wr) := ⟨⟨A1, c1, rfl, n1, (by unfold maxLen; omega), s1⟩, hown.tail⟩
      have bn1 : Hid (b ∉ L1) := fun m => hown.head (by simp [m])
      have sb1 : Hid (∀ y ∈ L1, y ∈ L1) := fun y m => by simp [m]
      clear s1
      have HPut := Lib.hid hput
      have HOwn := Lib.hid hown
      have HLk := Lib.hid hLk
      clear hput hown hLk hcells hkk hDl hDm
      simp only [show ZC9.size = 5 from rfl] at HEl HPut
      have q0 := HEl.out.at (j := 0) rfl
      have z0 := HEl.out.frozen (off + i * 5)
      have q1 := HEl.out.at (j := 1) rfl
      have z1 := HEl.out.frozen (off + i * 5 + 1)
      have q2 := HEl.out.at (j := 2) rfl
      have z2 := HEl.out.frozen (off + i * 5 + 2)
      have q3 := HEl.out.at (j := 3) rfl
      have z3 := HEl.out.frozen (off + i * 5 + 3)
      have q4 := HEl.out.at (j := 4) rfl
      have z4 := HEl.out.frozen (off + i * 5 + 4)
      simp only [Nat.add_zero] at q0
      have gm0 : (0 : Int) ≤ 0 := by omega
      have mono_x_pattern_args := ZLj (kk + 1 + 1) x.pattern.args
      go_wp2_with fail
      refine (ZLf _ _ (by omega) (by omega)).mono ?_
      rintro e w1 ⟨rfl, hb1⟩
      have HEl := Lib.hid ((HEl.out.set 0 (by omega) (.int .i64 (kk))).later hb1)
      have G1 := Lib.hid ((G1.out.setFar (p := ⟨b, off + i * 5 + 0, none⟩) bn1.out (.int .i64 (kk))).later hb1)
      clear hb1
      clear q0 z0 q1 z1 q2 z2 q3 z3 q4 z4
      have q0 := HEl.out.at (j := 0) rfl
      have z0 := HEl.out.frozen (off + i * 5)
      have q1 := HEl.out.at (j := 1) rfl
      have z1 := HEl.out.frozen (off + i * 5 + 1)
      have q2 := HEl.out.at (j := 2) rfl
      have z2 := HEl.out.frozen (off + i * 5 + 2)
      have q3 := HEl.out.at (j := 3) rfl
      have z3 := HEl.out.frozen (off + i * 5 + 3)
      have q4 := HEl.out.at (j := 4) rfl
      have z4 := HEl.out.frozen (off + i * 5 + 4)
      simp only [Nat.add_zero] at q0
      go_wp2_with fail
      have G1 := Lib.hid (G1.out.setFar (p := ⟨b, off + i * 5 + 1, none⟩) bn1.out (.string (mTx (kk + 1))))
      refine (ZLX A1 _ c1 x.pattern.args L1 base _ _ rfl (by omega) (by omega) G1.out).mono ?_
      rintro e w2 ⟨rfl, g2, on2⟩
      have HEl := Lib.hid ((HEl.out.set 1 (by omega) (.string (mTx (kk + 1)))).marked on2 sb1.out bn1.out)
      have G1 := Lib.hid g2
      clear g2 on2
      clear q0 z0 q1 z1 q2 z2 q3 z3 q4 z4
      have q0 := HEl.out.at (j := 0) rfl
      have z0 := HEl.out.frozen (off + i * 5)
      have q1 := HEl.out.at (j := 1) rfl
      have z1 := HEl.out.frozen (off + i * 5 + 1)
      have q2 := HEl.out.at (j := 2) rfl
      have z2 := HEl.out.frozen (off + i * 5 + 2)
      have q3 := HEl.out.at (j := 3) rfl
      have z3 := HEl.out.frozen (off + i * 5 + 3)
      have q4 := HEl.out.at (j := 4) rfl
      have z4 := HEl.out.frozen (off + i * 5 + 4)
      simp only [Nat.add_zero] at q0
      go_wp2_with fail
      refine (ZLf _ _ (by omega) (by omega)).mono ?_
      rintro e w3 ⟨rfl, hb3⟩
      have HEl := Lib.hid (HEl.out.later hb3)
      have G1 := Lib.hid (G1.out.later hb3)
      clear hb3
      clear q0 z0 q1 z1 q2 z2 q3 z3 q4 z4
      have q0 := HEl.out.at (j := 0) rfl
      have z0 := HEl.out.frozen (off + i * 5)
      have q1 := HEl.out.at (j := 1) rfl
      have z1 := HEl.out.frozen (off + i * 5 + 1)
      have q2 := HEl.out.at (j := 2) rfl
      have z2 := HEl.out.frozen (off + i * 5 + 2)
      have q3 := HEl.out.at (j := 3) rfl
      have z3 := HEl.out.frozen (off + i * 5 + 3)
      have q4 := HEl.out.at (j := 4) rfl
      have z4 := HEl.out.frozen (off + i * 5 + 4)
      simp only [Nat.add_zero] at q0
      go_wp2_with fail
      refine (ZLf _ _ (by omega) (by omega)).mono ?_
      rintro e w4 ⟨rfl, hb4⟩
      have HEl := Lib.hid ((HEl.out.set 3 (by omega) (.string (mTx (Qs (kk + 1 + 1) x.pattern.args)))).later hb4)
      have G1 := Lib.hid ((G1.out.setFar (p := ⟨b, off + i * 5 + 3, none⟩) bn1.out (.string (mTx (Qs (kk + 1 + 1) x.pattern.args)))).later hb4)
      clear hb4
      clear q0 z0 q1 z1 q2 z2 q3 z3 q4 z4
      have q0 := HEl.out.at (j := 0) rfl
      have z0 := HEl.out.frozen (off + i * 5)
      have q1 := HEl.out.at (j := 1) rfl
      have z1 := HEl.out.frozen (off + i * 5 + 1)
      have q2 := HEl.out.at (j := 2) rfl
      have z2 := HEl.out.frozen (off + i * 5 + 2)
      have q3 := HEl.out.at (j := 3) rfl
      have z3 := HEl.out.frozen (off + i * 5 + 3)
      have q4 := HEl.out.at (j := 4) rfl
      have z4 := HEl.out.frozen (off + i * 5 + 4)
      simp only [Nat.add_zero] at q0
      have HEl := Lib.hid (HEl.out.set 4 (by omega) (.string (mTx (Qs (kk + 1 + 1) x.pattern.args + 1))))
      have G1 := Lib.hid (G1.out.setFar (p := ⟨b, off + i * 5 + 4, none⟩) bn1.out (.string (mTx (Qs (kk + 1 + 1) x.pattern.args + 1))))
      obtain ⟨nn1, mm1, ss1⟩ := ZeR G1.out.rep
      have hO2 := Lib.hid (ZLD HOwn.out HEl.out.plain HEl.out.only (fun y m => by (try simp only [List.mem_append] at m) <;> (exact G1.out.own.plain y m)))
      have HGn := Lib.hid (HPut.out _ _ (ZNh kk x) HEl.out.only HEl.out.cells HEl.out.rest ⟨A1, c1, L1, by simp [ZNh, ZLt], rfl, ZLW _ (by omega), ZLW _ (by omega), ZLW _ (by omega), nn1, mm1, ss1⟩ hO2.out)
      have HOn := Lib.hid (HO.out.trans (HEl.out.only.mono (fun y m => by rcases List.mem_cons.1 m with rfl | m; exact hbL; exact HLk.out y m)))
      rw [hset.out] at HGn
      try simp only [Nat.add_zero] at HGn HOn
      clear HEl hO2 HPut G1 nn1 mm1 ss1
      go_wp2_with fail
      go_roundw
      case rel => exact ⟨i + 1, ZLO kk x, _, by omega, by go_num, rfl, by unfold ZLO; omega, HDn, HGn, HOn⟩
      case measure => simp [intOf]; omega
    · obtain rfl : i = n := by omega
      have e : Hid (ds.drop i = []) := List.drop_of_length_le (by have := HN.out; omega)
      have hf : Hid (ZLo k ds = kk ∧ D = ZL0 k ds) := by
        obtain ⟨h1, h2, h3⟩ := HD.out
        rw [e.out] at h3 h1
        simp [ZL0] at h3
        exact ⟨h1.symm, h3⟩
      rw [e.out, List.append_nil] at HG
      go_wp2
      go_ret
      exact ⟨ZL2 hf.out.1.symm, by rw [← hf.out.2]; exact HG.out, HO.out⟩

set_option maxRecDepth 100000 in
set_option maxHeartbeats 4000000 in
theorem ZOc (A : Option Addr) (n c : Nat) (ds : List Zy) (L : List Nat) (base : Nat) (k : Int) (w : World) (hn : n = ds.length) (hm : n ≤ 9223372036854775807) (hk0 : 1 ≤ k) (hk1 : ZLn k ds ≤ 4611686018427387904) (h : Got (ZQ ZxH) base [.slice A n c] ds L w) :
    Calls Tryz.prog 73 #[.slice A n c, .int .i64 k] w fun e w' => e = .returned (.int .i64 (ZLn k ds)) ∧ Got (ZQ ZxH) base [.slice A n c] (ZLJ k ds) L w' ∧ ZLq L w w' := by
  have H := Lib.hid h
  have HN := Lib.hid hn
  have HK := Lib.hid hk1
  clear h hn hk1
  go_enter Tryz.func73, Tryz.ntmps73
  go_wp2
  go_loopw [1, 5] (fun q j wr => ∃ (i : Nat) (kk : Int) (D : List Zy), i ≤ n ∧ j = .int .i64 i ∧ q = .int .i64 kk ∧ 1 ≤ kk ∧ Hid (ZLn kk (ds.drop i) = ZLn k ds ∧ D.length = i ∧ D ++ ZLJ kk (ds.drop i) = ZLJ k ds) ∧ Hid (Got (ZQ ZxH) base [.slice A n c] (D ++ ds.drop i) L wr) ∧ Hid (ZLq L w wr)) (fun _ j _ => n - (intOf j).toNat)
  case atStart => exact ⟨0, k, [], Nat.zero_le _, rfl, rfl, hk0, ⟨rfl, rfl, rfl⟩, H.out, ZLq.refl _ _⟩
  case round =>
    obtain ⟨i, kk, D, hi, rfl, rfl, h1, HD, HG, HO⟩ := hrel
    by_cases hlt : i < n
    · have hil : i < ds.length := by have := HN.out; omega
      obtain ⟨hkk, hDl, hDm⟩ := HD.out
      have hcl : i < (D ++ ds.drop i).length := by simp; omega
      obtain ⟨b, off, cs, Lk, rfl, hbL, hLk, hown, hrep, hcells, hput⟩ := HG.out.focus hcl
      have hnext : Hid (ds.drop i = ds[i] :: ds.drop (i + 1)) := List.drop_eq_getElem_cons _
      have hxi : (D ++ ds.drop i)[i] = ds[i] := by
        rw [List.getElem_append_right (by omega)]; simp [hDl]
      rw [hxi] at hrep
      clear hxi
      generalize ds[i] = x at hrep hnext
      have hnb : Hid (ZLu kk x ≤ 4611686018427387904) := by
        have := ZMf (ZLu kk x) (ds.drop (i + 1))
        rw [hnext.out] at hkk
        have hk := HK.out
        rw [← hkk] at hk
        exact Int.le_trans this hk
      have hnb1 := hnb.out
      have hnb2 := ZMP kk x
      unfold ZLu at hnb1 hnb2
      have HDn : Hid (ZLn (ZLu kk x) (ds.drop (i + 1)) = ZLn k ds ∧ (D ++ [ZMy kk x]).length = i + 1 ∧ (D ++ [ZMy kk x]) ++ ZLJ (ZLu kk x) (ds.drop (i + 1)) = ZLJ k ds) := by
        refine ⟨by rw [← hkk, hnext.out]; rfl, by simp [hDl], ?_⟩
        rw [← hDm, hnext.out]; simp [ZLJ]
      have hset : Hid ((D ++ ds.drop i).set i (ZMy kk x) = (D ++ [ZMy kk x]) ++ ds.drop (i + 1)) := by
        rw [Hid, List.set_append_right _ _ (by omega), show i - D.length = 0 by omega, hnext.out, List.set_cons_zero]; simp
      obtain ⟨A1, c1, L1, rfl, hLL, t0, n1, m1, s1⟩ := hrep
      unfold maxLen at m1
      subst Lk
      have HEl := Lib.hid (ZMk.start (m := 3) hcells rfl hown)
      have hbn := Lib.hid hown.head
      have G1 : Hid (Got (ZQ ZsX) base [.slice A1 x.pattern.args.length c1] x.pattern.args L1 wr) := ⟨⟨A1, c1, rfl, n1, (by unfold maxLen; omega), s1⟩, hown.tail⟩
      have bn1 : Hid (b ∉ L1) := fun m => hown.head (by simp [m])
      have sb1 : Hid (∀ y ∈ L1, y ∈ L1) := fun y m => by simp [m]
      clear s1
      have HPut := Lib.hid hput
      have HOwn := Lib.hid hown
      have HLk := Lib.hid hLk
      clear hput hown hLk hcells hkk hDl hDm
      simp only [show ZxH.size = 3 from rfl] at HEl HPut
      have q0 := HEl.out.at (j := 0) rfl
      have z0 := HEl.out.frozen (off + i * 3)
      have q1 := HEl.out.at (j := 1) rfl
      have z1 := HEl.out.frozen (off + i * 3 + 1)
      have q2 := HEl.out.at (j := 2) rfl
      have z2 := HEl.out.frozen (off + i * 3 + 2)
      simp only [Nat.add_zero] at q0
      have gm0 : (0 : Int) ≤ 0 := by omega
      have mono_x_pattern_args := ZLj (kk + 1 + 1) x.pattern.args
      go_wp2_with fail
      refine (ZLf _ _ (by omega) (by omega)).mono ?_
      rintro e w1 ⟨rfl, hb1⟩
      have HEl := Lib.hid ((HEl.out.set 0 (by omega) (.int .i64 (kk))).later hb1)
      have G1 := Lib.hid ((G1.out.setFar (p := ⟨b, off + i * 3 + 0, none⟩) bn1.out (.int .i64 (kk))).later hb1)
      clear hb1
      clear q0 z0 q1 z1 q2 z2
      have q0 := HEl.out.at (j := 0) rfl
      have z0 := HEl.out.frozen (off + i * 3)
      have q1 := HEl.out.at (j := 1) rfl
      have z1 := HEl.out.frozen (off + i * 3 + 1)
      have q2 := HEl.out.at (j := 2) rfl
      have z2 := HEl.out.frozen (off + i * 3 + 2)
      simp only [Nat.add_zero] at q0
      go_wp2_with fail
      have G1 := Lib.hid (G1.out.setFar (p := ⟨b, off + i * 3 + 1, none⟩) bn1.out (.string (mTx (kk + 1))))
      refine (ZLX A1 _ c1 x.pattern.args L1 base _ _ rfl (by omega) (by omega) G1.out).mono ?_
      rintro e w2 ⟨rfl, g2, on2⟩
      have HEl := Lib.hid ((HEl.out.set 1 (by omega) (.string (mTx (kk + 1)))).marked on2 sb1.out bn1.out)
      have G1 := Lib.hid g2
      clear g2 on2
      clear q0 z0 q1 z1 q2 z2
      have q0 := HEl.out.at (j := 0) rfl
      have z0 := HEl.out.frozen (off + i * 3)
      have q1 := HEl.out.at (j := 1) rfl
      have z1 := HEl.out.frozen (off + i * 3 + 1)
      have q2 := HEl.out.at (j := 2) rfl
      have z2 := HEl.out.frozen (off + i * 3 + 2)
      simp only [Nat.add_zero] at q0
      obtain ⟨nn1, mm1, ss1⟩ := ZeR G1.out.rep
      have hO2 := Lib.hid (ZLD HOwn.out HEl.out.plain HEl.out.only (fun y m => by (try simp only [List.mem_append] at m) <;> (exact G1.out.own.plain y m)))
      have HGn := Lib.hid (HPut.out _ _ (ZMy kk x) HEl.out.only HEl.out.cells HEl.out.rest ⟨A1, c1, L1, by simp [ZMy, ZLt], rfl, ZLW _ (by omega), nn1, mm1, ss1⟩ hO2.out)
      have HOn := Lib.hid (HO.out.trans (HEl.out.only.mono (fun y m => by rcases List.mem_cons.1 m with rfl | m; exact hbL; exact HLk.out y m)))
      rw [hset.out] at HGn
      try simp only [Nat.add_zero] at HGn HOn
      clear HEl hO2 HPut G1 nn1 mm1 ss1
      go_wp2_with fail
      go_roundw
      case rel => exact ⟨i + 1, ZLu kk x, _, by omega, by go_num, rfl, by unfold ZLu; omega, HDn, HGn, HOn⟩
      case measure => simp [intOf]; omega
    · obtain rfl : i = n := by omega
      have e : Hid (ds.drop i = []) := List.drop_of_length_le (by have := HN.out; omega)
      have hf : Hid (ZLn k ds = kk ∧ D = ZLJ k ds) := by
        obtain ⟨h1, h2, h3⟩ := HD.out
        rw [e.out] at h3 h1
        simp [ZLJ] at h3
        exact ⟨h1.symm, h3⟩
      rw [e.out, List.append_nil] at HG
      go_wp2
      go_ret
      exact ⟨ZL2 hf.out.1.symm, by rw [← hf.out.2]; exact HG.out, HO.out⟩

set_option maxRecDepth 100000 in
set_option maxHeartbeats 4000000 in
theorem ZNt (A : Option Addr) (n c : Nat) (ds : List Zf) (L : List Nat) (base : Nat) (k : Int) (w : World) (hn : n = ds.length) (hm : n ≤ 9223372036854775807) (hk0 : 1 ≤ k) (hk1 : ZLc k ds ≤ 4611686018427387904) (h : Got (ZQ Zby) base [.slice A n c] ds L w) :
    Calls Tryz.prog 34 #[.slice A n c, .int .i64 k] w fun e w' => e = .returned (.int .i64 (ZLc k ds)) ∧ Got (ZQ Zby) base [.slice A n c] (ZLy k ds) L w' ∧ ZLq L w w' := by
  have H := Lib.hid h
  have HN := Lib.hid hn
  have HK := Lib.hid hk1
  clear h hn hk1
  go_enter Tryz.func34, Tryz.ntmps34
  go_wp2
  go_loopw [1, 5] (fun q j wr => ∃ (i : Nat) (kk : Int) (D : List Zf), i ≤ n ∧ j = .int .i64 i ∧ q = .int .i64 kk ∧ 1 ≤ kk ∧ Hid (ZLc kk (ds.drop i) = ZLc k ds ∧ D.length = i ∧ D ++ ZLy kk (ds.drop i) = ZLy k ds) ∧ Hid (Got (ZQ Zby) base [.slice A n c] (D ++ ds.drop i) L wr) ∧ Hid (ZLq L w wr)) (fun _ j _ => n - (intOf j).toNat)
  case atStart => exact ⟨0, k, [], Nat.zero_le _, rfl, rfl, hk0, ⟨rfl, rfl, rfl⟩, H.out, ZLq.refl _ _⟩
  case round =>
    obtain ⟨i, kk, D, hi, rfl, rfl, h1, HD, HG, HO⟩ := hrel
    by_cases hlt : i < n
    · have hil : i < ds.length := by have := HN.out; omega
      obtain ⟨hkk, hDl, hDm⟩ := HD.out
      have hcl : i < (D ++ ds.drop i).length := by simp; omega
      obtain ⟨b, off, cs, Lk, rfl, hbL, hLk, hown, hrep, hcells, hput⟩ := HG.out.focus hcl
      have hnext : Hid (ds.drop i = ds[i] :: ds.drop (i + 1)) := List.drop_eq_getElem_cons _
      have hxi : (D ++ ds.drop i)[i] = ds[i] := by
        rw [List.getElem_append_right (by omega)]; simp [hDl]
      rw [hxi] at hrep
      clear hxi
      generalize ds[i] = x at hrep hnext
      have hnb : Hid (ZLP kk x ≤ 4611686018427387904) := by
        have := ZMa (ZLP kk x) (ds.drop (i + 1))
        rw [hnext.out] at hkk
        have hk := HK.out
        rw [← hkk] at hk
        exact Int.le_trans this hk
      have hnb1 := hnb.out
      have hnb2 := ZNe kk x
      unfold ZLP at hnb1 hnb2
      have HDn : Hid (ZLc (ZLP kk x) (ds.drop (i + 1)) = ZLc k ds ∧ (D ++ [ZM5 kk x]).length = i + 1 ∧ (D ++ [ZM5 kk x]) ++ ZLy (ZLP kk x) (ds.drop (i + 1)) = ZLy k ds) := by
        refine ⟨by rw [← hkk, hnext.out]; rfl, by simp [hDl], ?_⟩
        rw [← hDm, hnext.out]; simp [ZLy]
      have hset : Hid ((D ++ ds.drop i).set i (ZM5 kk x) = (D ++ [ZM5 kk x]) ++ ds.drop (i + 1)) := by
        rw [Hid, List.set_append_right _ _ (by omega), show i - D.length = 0 by omega, hnext.out, List.set_cons_zero]; simp
      obtain ⟨A1, c1, L1, A2, c2, L2, rfl, hLL, t0, n1, m1, s1, n2, m2, s2⟩ := hrep
      unfold maxLen at m1 m2
      subst hLL
      have HEl := Lib.hid (ZMk.start (m := 4) hcells rfl hown)
      have hbn := Lib.hid hown.head
      have G1 : Hid (Got (ZQ ZC9) base [.slice A1 x.cond.length c1] x.cond L1 wr) := ⟨⟨A1, c1, rfl, n1, (by unfold maxLen; omega), s1⟩, hown.tail.left⟩
      have bn1 : Hid (b ∉ L1) := fun m => hown.head (by simp [m])
      have sb1 : Hid (∀ y ∈ L1, y ∈ L1 ++ L2) := fun y m => by simp [m]
      have ap1_2 : Hid (∀ y ∈ L1, y ∉ L2) := fun y m m' => hown.tail.apart y m (by simp [m'])
      have ap2_1 : Hid (∀ y ∈ L2, y ∉ L1) := fun y m m' => ap1_2.out y m' m
      have G2 : Hid (Got (ZQ ZxH) base [.slice A2 x.thn.length c2] x.thn L2 wr) := ⟨⟨A2, c2, rfl, n2, (by unfold maxLen; omega), s2⟩, hown.tail.right⟩
      have bn2 : Hid (b ∉ L2) := fun m => hown.head (by simp [m])
      have sb2 : Hid (∀ y ∈ L2, y ∈ L1 ++ L2) := fun y m => by simp [m]
      clear s1
      clear s2
      have HPut := Lib.hid hput
      have HOwn := Lib.hid hown
      have HLk := Lib.hid hLk
      clear hput hown hLk hcells hkk hDl hDm
      simp only [show Zby.size = 4 from rfl] at HEl HPut
      have q0 := HEl.out.at (j := 0) rfl
      have z0 := HEl.out.frozen (off + i * 4)
      have q1 := HEl.out.at (j := 1) rfl
      have z1 := HEl.out.frozen (off + i * 4 + 1)
      have q2 := HEl.out.at (j := 2) rfl
      have z2 := HEl.out.frozen (off + i * 4 + 2)
      have q3 := HEl.out.at (j := 3) rfl
      have z3 := HEl.out.frozen (off + i * 4 + 3)
      simp only [Nat.add_zero] at q0
      have gm0 : (0 : Int) ≤ 0 := by omega
      have mono_x_cond := ZMt (kk + 1 + 1) x.cond
      have mono_x_thn := ZMf (ZLo (kk + 1 + 1) x.cond) x.thn
      go_wp2_with fail
      refine (ZLf _ _ (by omega) (by omega)).mono ?_
      rintro e w1 ⟨rfl, hb1⟩
      have HEl := Lib.hid (HEl.out.later hb1)
      have G1 := Lib.hid (G1.out.later hb1)
      have G2 := Lib.hid (G2.out.later hb1)
      clear hb1
      clear q0 z0 q1 z1 q2 z2 q3 z3
      have q0 := HEl.out.at (j := 0) rfl
      have z0 := HEl.out.frozen (off + i * 4)
      have q1 := HEl.out.at (j := 1) rfl
      have z1 := HEl.out.frozen (off + i * 4 + 1)
      have q2 := HEl.out.at (j := 2) rfl
      have z2 := HEl.out.frozen (off + i * 4 + 2)
      have q3 := HEl.out.at (j := 3) rfl
      have z3 := HEl.out.frozen (off + i * 4 + 3)
      simp only [Nat.add_zero] at q0
      go_wp2_with fail
      have G1 := Lib.hid ((G1.out.setFar (p := ⟨b, off + i * 4 + 0, none⟩) bn1.out (.string (mTx (kk)))).setFar (p := ⟨b, off + i * 4 + 1, none⟩) bn1.out (.int .i64 (kk + 1)))
      refine (ZOO A1 _ c1 x.cond L1 base _ _ rfl (by omega) (by omega) (by omega) G1.out).mono ?_
      rintro e w2 ⟨rfl, g2, on2⟩
      have HEl := Lib.hid (((HEl.out.set 0 (by omega) (.string (mTx (kk)))).set 1 (by omega) (.int .i64 (kk + 1))).marked on2 sb1.out bn1.out)
      have G1 := Lib.hid g2
      have G2 := Lib.hid (((G2.out.setFar (p := ⟨b, off + i * 4 + 0, none⟩) bn2.out (.string (mTx (kk)))).setFar (p := ⟨b, off + i * 4 + 1, none⟩) bn2.out (.int .i64 (kk + 1))).only on2 ap2_1.out)
      clear g2 on2
      clear q0 z0 q1 z1 q2 z2 q3 z3
      have q0 := HEl.out.at (j := 0) rfl
      have z0 := HEl.out.frozen (off + i * 4)
      have q1 := HEl.out.at (j := 1) rfl
      have z1 := HEl.out.frozen (off + i * 4 + 1)
      have q2 := HEl.out.at (j := 2) rfl
      have z2 := HEl.out.frozen (off + i * 4 + 2)
      have q3 := HEl.out.at (j := 3) rfl
      have z3 := HEl.out.frozen (off + i * 4 + 3)
      simp only [Nat.add_zero] at q0
      go_wp2_with fail
      refine (ZOc A2 _ c2 x.thn L2 base _ _ rfl (by omega) (by omega) (by omega) G2.out).mono ?_
      rintro e w3 ⟨rfl, g3, on3⟩
      have HEl := Lib.hid (HEl.out.marked on3 sb2.out bn2.out)
      have G1 := Lib.hid (G1.out.only on3 ap1_2.out)
      have G2 := Lib.hid g3
      clear g3 on3
      clear q0 z0 q1 z1 q2 z2 q3 z3
      have q0 := HEl.out.at (j := 0) rfl
      have z0 := HEl.out.frozen (off + i * 4)
      have q1 := HEl.out.at (j := 1) rfl
      have z1 := HEl.out.frozen (off + i * 4 + 1)
      have q2 := HEl.out.at (j := 2) rfl
      have z2 := HEl.out.frozen (off + i * 4 + 2)
      have q3 := HEl.out.at (j := 3) rfl
      have z3 := HEl.out.frozen (off + i * 4 + 3)
      simp only [Nat.add_zero] at q0
      obtain ⟨nn1, mm1, ss1⟩ := ZeR G1.out.rep
      obtain ⟨nn2, mm2, ss2⟩ := ZeR G2.out.rep
      have hO2 := Lib.hid (ZLD HOwn.out HEl.out.plain HEl.out.only (fun y m => by (try simp only [List.mem_append] at m) <;> (rcases m with m | m <;> first | exact G1.out.own.plain y m | exact G2.out.own.plain y m)))
      have HGn := Lib.hid (HPut.out _ _ (ZM5 kk x) HEl.out.only HEl.out.cells HEl.out.rest ⟨A1, c1, L1, A2, c2, L2, by simp [ZM5, ZNm, ZMM], rfl, ZLW _ (by omega), nn1, mm1, ss1, nn2, mm2, ss2⟩ hO2.out)
      have HOn := Lib.hid (HO.out.trans (HEl.out.only.mono (fun y m => by rcases List.mem_cons.1 m with rfl | m; exact hbL; exact HLk.out y m)))
      rw [hset.out] at HGn
      try simp only [Nat.add_zero] at HGn HOn
      clear HEl hO2 HPut G1 G2 nn1 nn2 mm1 mm2 ss1 ss2
      go_wp2_with fail
      go_roundw
      case rel => exact ⟨i + 1, ZLP kk x, _, by omega, by go_num, rfl, by unfold ZLP; omega, HDn, HGn, HOn⟩
      case measure => simp [intOf]; omega
    · obtain rfl : i = n := by omega
      have e : Hid (ds.drop i = []) := List.drop_of_length_le (by have := HN.out; omega)
      have hf : Hid (ZLc k ds = kk ∧ D = ZLy k ds) := by
        obtain ⟨h1, h2, h3⟩ := HD.out
        rw [e.out] at h3 h1
        simp [ZLy] at h3
        exact ⟨h1.symm, h3⟩
      rw [e.out, List.append_nil] at HG
      go_wp2
      go_ret
      exact ⟨ZL2 hf.out.1.symm, by rw [← hf.out.2]; exact HG.out, HO.out⟩

set_option maxRecDepth 100000 in
set_option maxHeartbeats 4000000 in
theorem ZOm (A : Option Addr) (n c : Nat) (ds : List Zw) (L : List Nat) (base : Nat) (k : Int) (w : World) (hn : n = ds.length) (hm : n ≤ 9223372036854775807) (hk0 : 1 ≤ k) (hk1 : ZLr k ds ≤ 4611686018427387904) (h : Got (ZQ ZlR) base [.slice A n c] ds L w) :
    Calls Tryz.prog 75 #[.slice A n c, .int .i64 k] w fun e w' => e = .returned (.int .i64 (ZLr k ds)) ∧ Got (ZQ ZlR) base [.slice A n c] (ZLU k ds) L w' ∧ ZLq L w w' := by
  have H := Lib.hid h
  have HN := Lib.hid hn
  have HK := Lib.hid hk1
  clear h hn hk1
  go_enter Tryz.func75, Tryz.ntmps75
  go_wp2
  go_loopw [1, 5] (fun q j wr => ∃ (i : Nat) (kk : Int) (D : List Zw), i ≤ n ∧ j = .int .i64 i ∧ q = .int .i64 kk ∧ 1 ≤ kk ∧ Hid (ZLr kk (ds.drop i) = ZLr k ds ∧ D.length = i ∧ D ++ ZLU kk (ds.drop i) = ZLU k ds) ∧ Hid (Got (ZQ ZlR) base [.slice A n c] (D ++ ds.drop i) L wr) ∧ Hid (ZLq L w wr)) (fun _ j _ => n - (intOf j).toNat)
  case atStart => exact ⟨0, k, [], Nat.zero_le _, rfl, rfl, hk0, ⟨rfl, rfl, rfl⟩, H.out, ZLq.refl _ _⟩
  case round =>
    obtain ⟨i, kk, D, hi, rfl, rfl, h1, HD, HG, HO⟩ := hrel
    by_cases hlt : i < n
    · have hil : i < ds.length := by have := HN.out; omega
      obtain ⟨hkk, hDl, hDm⟩ := HD.out
      have hcl : i < (D ++ ds.drop i).length := by simp; omega
      obtain ⟨b, off, cs, Lk, rfl, hbL, hLk, hown, hrep, hcells, hput⟩ := HG.out.focus hcl
      have hnext : Hid (ds.drop i = ds[i] :: ds.drop (i + 1)) := List.drop_eq_getElem_cons _
      have hxi : (D ++ ds.drop i)[i] = ds[i] := by
        rw [List.getElem_append_right (by omega)]; simp [hDl]
      rw [hxi] at hrep
      clear hxi
      generalize ds[i] = x at hrep hnext
      have hnb : Hid (ZLA kk x ≤ 4611686018427387904) := by
        have := ZMo (ZLA kk x) (ds.drop (i + 1))
        rw [hnext.out] at hkk
        have hk := HK.out
        rw [← hkk] at hk
        exact Int.le_trans this hk
      have hnb1 := hnb.out
      have hnb2 := ZM1 kk x
      unfold ZLA at hnb1 hnb2
      have HDn : Hid (ZLr (ZLA kk x) (ds.drop (i + 1)) = ZLr k ds ∧ (D ++ [ZMD kk x]).length = i + 1 ∧ (D ++ [ZMD kk x]) ++ ZLU (ZLA kk x) (ds.drop (i + 1)) = ZLU k ds) := by
        refine ⟨by rw [← hkk, hnext.out]; rfl, by simp [hDl], ?_⟩
        rw [← hDm, hnext.out]; simp [ZLU]
      have hset : Hid ((D ++ ds.drop i).set i (ZMD kk x) = (D ++ [ZMD kk x]) ++ ds.drop (i + 1)) := by
        rw [Hid, List.set_append_right _ _ (by omega), show i - D.length = 0 by omega, hnext.out, List.set_cons_zero]; simp
      obtain ⟨A1, c1, L1, A2, c2, L2, rfl, hLL, n1, m1, s1, n2, m2, s2⟩ := hrep
      unfold maxLen at m1 m2
      subst hLL
      have HEl := Lib.hid (ZMk.start (m := 2) hcells rfl hown)
      have hbn := Lib.hid hown.head
      have G1 : Hid (Got (ZQ Yf) base [.slice A1 x.facts.length c1] x.facts L1 wr) := ⟨⟨A1, c1, rfl, n1, (by unfold maxLen; omega), s1⟩, hown.tail.left⟩
      have bn1 : Hid (b ∉ L1) := fun m => hown.head (by simp [m])
      have sb1 : Hid (∀ y ∈ L1, y ∈ L1 ++ L2) := fun y m => by simp [m]
      have ap1_2 : Hid (∀ y ∈ L1, y ∉ L2) := fun y m m' => hown.tail.apart y m (by simp [m'])
      have ap2_1 : Hid (∀ y ∈ L2, y ∉ L1) := fun y m m' => ap1_2.out y m' m
      have G2 : Hid (Got (ZQ ZDh) base [.slice A2 x.binding.length c2] x.binding L2 wr) := ⟨⟨A2, c2, rfl, n2, (by unfold maxLen; omega), s2⟩, hown.tail.right⟩
      have bn2 : Hid (b ∉ L2) := fun m => hown.head (by simp [m])
      have sb2 : Hid (∀ y ∈ L2, y ∈ L1 ++ L2) := fun y m => by simp [m]
      clear s1
      clear s2
      have HPut := Lib.hid hput
      have HOwn := Lib.hid hown
      have HLk := Lib.hid hLk
      clear hput hown hLk hcells hkk hDl hDm
      simp only [show ZlR.size = 2 from rfl] at HEl HPut
      have q0 := HEl.out.at (j := 0) rfl
      have z0 := HEl.out.frozen (off + i * 2)
      have q1 := HEl.out.at (j := 1) rfl
      have z1 := HEl.out.frozen (off + i * 2 + 1)
      simp only [Nat.add_zero] at q0
      have gm0 : (0 : Int) ≤ 0 := by omega
      have mono_x_facts := ZLT (kk) x.facts
      have mono_x_binding := ZMr (ZLl (kk) x.facts) x.binding
      go_wp2_with fail
      refine (ZMO A1 _ c1 x.facts L1 base _ _ rfl (by omega) (by omega) (by omega) G1.out).mono ?_
      rintro e w1 ⟨rfl, g1, on1⟩
      have HEl := Lib.hid (HEl.out.marked on1 sb1.out bn1.out)
      have G1 := Lib.hid g1
      have G2 := Lib.hid (G2.out.only on1 ap2_1.out)
      clear g1 on1
      clear q0 z0 q1 z1
      have q0 := HEl.out.at (j := 0) rfl
      have z0 := HEl.out.frozen (off + i * 2)
      have q1 := HEl.out.at (j := 1) rfl
      have z1 := HEl.out.frozen (off + i * 2 + 1)
      simp only [Nat.add_zero] at q0
      go_wp2_with fail
      refine (ZOV A2 _ c2 x.binding L2 base _ _ rfl (by omega) (by omega) (by omega) G2.out).mono ?_
      rintro e w2 ⟨rfl, g2, on2⟩
      have HEl := Lib.hid (HEl.out.marked on2 sb2.out bn2.out)
      have G1 := Lib.hid (G1.out.only on2 ap1_2.out)
      have G2 := Lib.hid g2
      clear g2 on2
      clear q0 z0 q1 z1
      have q0 := HEl.out.at (j := 0) rfl
      have z0 := HEl.out.frozen (off + i * 2)
      have q1 := HEl.out.at (j := 1) rfl
      have z1 := HEl.out.frozen (off + i * 2 + 1)
      simp only [Nat.add_zero] at q0
      obtain ⟨nn1, mm1, ss1⟩ := ZeR G1.out.rep
      obtain ⟨nn2, mm2, ss2⟩ := ZeR G2.out.rep
      have hO2 := Lib.hid (ZLD HOwn.out HEl.out.plain HEl.out.only (fun y m => by (try simp only [List.mem_append] at m) <;> (rcases m with m | m <;> first | exact G1.out.own.plain y m | exact G2.out.own.plain y m)))
      have HGn := Lib.hid (HPut.out _ _ (ZMD kk x) HEl.out.only HEl.out.cells HEl.out.rest ⟨A1, c1, L1, A2, c2, L2, by simp [ZMD, ZMd, ZM9], rfl, nn1, mm1, ss1, nn2, mm2, ss2⟩ hO2.out)
      have HOn := Lib.hid (HO.out.trans (HEl.out.only.mono (fun y m => by rcases List.mem_cons.1 m with rfl | m; exact hbL; exact HLk.out y m)))
      rw [hset.out] at HGn
      try simp only [Nat.add_zero] at HGn HOn
      clear HEl hO2 HPut G1 G2 nn1 nn2 mm1 mm2 ss1 ss2
      go_wp2_with fail
      go_roundw
      case rel => exact ⟨i + 1, ZLA kk x, _, by omega, by go_num, rfl, by unfold ZLA; omega, HDn, HGn, HOn⟩
      case measure => simp [intOf]; omega
    · obtain rfl : i = n := by omega
      have e : Hid (ds.drop i = []) := List.drop_of_length_le (by have := HN.out; omega)
      have hf : Hid (ZLr k ds = kk ∧ D = ZLU k ds) := by
        obtain ⟨h1, h2, h3⟩ := HD.out
        rw [e.out] at h3 h1
        simp [ZLU] at h3
        exact ⟨h1.symm, h3⟩
      rw [e.out, List.append_nil] at HG
      go_wp2
      go_ret
      exact ⟨ZL2 hf.out.1.symm, by rw [← hf.out.2]; exact HG.out, HO.out⟩

set_option maxRecDepth 100000 in
set_option maxHeartbeats 4000000 in
theorem ZOA (A : Option Addr) (n c : Nat) (ds : List ZL4) (L : List Nat) (base : Nat) (k : Int) (w : World) (hn : n = ds.length) (hm : n ≤ 9223372036854775807) (hk0 : 1 ≤ k) (hk1 : ZLe k ds ≤ 4611686018427387904) (h : Got (ZQ ZL7) base [.slice A n c] ds L w) :
    Calls Tryz.prog 39 #[.slice A n c, .int .i64 k] w fun e w' => e = .returned (.int .i64 (ZLe k ds)) ∧ Got (ZQ ZL7) base [.slice A n c] (ZLI k ds) L w' ∧ ZLq L w w' := by
  have H := Lib.hid h
  have HN := Lib.hid hn
  have HK := Lib.hid hk1
  clear h hn hk1
  go_enter Tryz.func39, Tryz.ntmps39
  go_wp2
  go_loopw [1, 5] (fun q j wr => ∃ (i : Nat) (kk : Int) (D : List ZL4), i ≤ n ∧ j = .int .i64 i ∧ q = .int .i64 kk ∧ 1 ≤ kk ∧ Hid (ZLe kk (ds.drop i) = ZLe k ds ∧ D.length = i ∧ D ++ ZLI kk (ds.drop i) = ZLI k ds) ∧ Hid (Got (ZQ ZL7) base [.slice A n c] (D ++ ds.drop i) L wr) ∧ Hid (ZLq L w wr)) (fun _ j _ => n - (intOf j).toNat)
  case atStart => exact ⟨0, k, [], Nat.zero_le _, rfl, rfl, hk0, ⟨rfl, rfl, rfl⟩, H.out, ZLq.refl _ _⟩
  case round =>
    obtain ⟨i, kk, D, hi, rfl, rfl, h1, HD, HG, HO⟩ := hrel
    by_cases hlt : i < n
    · have hil : i < ds.length := by have := HN.out; omega
      obtain ⟨hkk, hDl, hDm⟩ := HD.out
      have hcl : i < (D ++ ds.drop i).length := by simp; omega
      obtain ⟨b, off, cs, Lk, rfl, hbL, hLk, hown, hrep, hcells, hput⟩ := HG.out.focus hcl
      have hnext : Hid (ds.drop i = ds[i] :: ds.drop (i + 1)) := List.drop_eq_getElem_cons _
      have hxi : (D ++ ds.drop i)[i] = ds[i] := by
        rw [List.getElem_append_right (by omega)]; simp [hDl]
      rw [hxi] at hrep
      clear hxi
      generalize ds[i] = x at hrep hnext
      have hnb : Hid (ZLz kk x ≤ 4611686018427387904) := by
        have := ZMm (ZLz kk x) (ds.drop (i + 1))
        rw [hnext.out] at hkk
        have hk := HK.out
        rw [← hkk] at hk
        exact Int.le_trans this hk
      have hnb1 := hnb.out
      have hnb2 := ZM0 kk x
      unfold ZLz at hnb1 hnb2
      have HDn : Hid (ZLe (ZLz kk x) (ds.drop (i + 1)) = ZLe k ds ∧ (D ++ [ZMF kk x]).length = i + 1 ∧ (D ++ [ZMF kk x]) ++ ZLI (ZLz kk x) (ds.drop (i + 1)) = ZLI k ds) := by
        refine ⟨by rw [← hkk, hnext.out]; rfl, by simp [hDl], ?_⟩
        rw [← hDm, hnext.out]; simp [ZLI]
      have hset : Hid ((D ++ ds.drop i).set i (ZMF kk x) = (D ++ [ZMF kk x]) ++ ds.drop (i + 1)) := by
        rw [Hid, List.set_append_right _ _ (by omega), show i - D.length = 0 by omega, hnext.out, List.set_cons_zero]; simp
      obtain ⟨A1, c1, L1, A2, c2, L2, rfl, hLL, t0, n1, m1, s1, n2, m2, s2⟩ := hrep
      unfold maxLen at m1 m2
      subst hLL
      have HEl := Lib.hid (ZMk.start (m := 3) hcells rfl hown)
      have hbn := Lib.hid hown.head
      have G1 : Hid (Got (ZQ ZsX) base [.slice A1 x.shape.args.length c1] x.shape.args L1 wr) := ⟨⟨A1, c1, rfl, n1, (by unfold maxLen; omega), s1⟩, hown.tail.left⟩
      have bn1 : Hid (b ∉ L1) := fun m => hown.head (by simp [m])
      have sb1 : Hid (∀ y ∈ L1, y ∈ L1 ++ L2) := fun y m => by simp [m]
      have ap1_2 : Hid (∀ y ∈ L1, y ∉ L2) := fun y m m' => hown.tail.apart y m (by simp [m'])
      have ap2_1 : Hid (∀ y ∈ L2, y ∉ L1) := fun y m m' => ap1_2.out y m' m
      have G2 : Hid (Got (ZQ Yf) base [.slice A2 x.facts.length c2] x.facts L2 wr) := ⟨⟨A2, c2, rfl, n2, (by unfold maxLen; omega), s2⟩, hown.tail.right⟩
      have bn2 : Hid (b ∉ L2) := fun m => hown.head (by simp [m])
      have sb2 : Hid (∀ y ∈ L2, y ∈ L1 ++ L2) := fun y m => by simp [m]
      clear s1
      clear s2
      have HPut := Lib.hid hput
      have HOwn := Lib.hid hown
      have HLk := Lib.hid hLk
      clear hput hown hLk hcells hkk hDl hDm
      simp only [show ZL7.size = 3 from rfl] at HEl HPut
      have q0 := HEl.out.at (j := 0) rfl
      have z0 := HEl.out.frozen (off + i * 3)
      have q1 := HEl.out.at (j := 1) rfl
      have z1 := HEl.out.frozen (off + i * 3 + 1)
      have q2 := HEl.out.at (j := 2) rfl
      have z2 := HEl.out.frozen (off + i * 3 + 2)
      simp only [Nat.add_zero] at q0
      have gm0 : (0 : Int) ≤ 0 := by omega
      have mono_x_shape_args := ZLj (kk + 1) x.shape.args
      have mono_x_facts := ZLT (Qs (kk + 1) x.shape.args) x.facts
      go_wp2_with fail
      refine (ZLf _ _ (by omega) (by omega)).mono ?_
      rintro e w1 ⟨rfl, hb1⟩
      have HEl := Lib.hid (HEl.out.later hb1)
      have G1 := Lib.hid (G1.out.later hb1)
      have G2 := Lib.hid (G2.out.later hb1)
      clear hb1
      clear q0 z0 q1 z1 q2 z2
      have q0 := HEl.out.at (j := 0) rfl
      have z0 := HEl.out.frozen (off + i * 3)
      have q1 := HEl.out.at (j := 1) rfl
      have z1 := HEl.out.frozen (off + i * 3 + 1)
      have q2 := HEl.out.at (j := 2) rfl
      have z2 := HEl.out.frozen (off + i * 3 + 2)
      simp only [Nat.add_zero] at q0
      go_wp2_with fail
      have G1 := Lib.hid (G1.out.setFar (p := ⟨b, off + i * 3 + 0, none⟩) bn1.out (.string (mTx (kk))))
      refine (ZLX A1 _ c1 x.shape.args L1 base _ _ rfl (by omega) (by omega) G1.out).mono ?_
      rintro e w2 ⟨rfl, g2, on2⟩
      have HEl := Lib.hid ((HEl.out.set 0 (by omega) (.string (mTx (kk)))).marked on2 sb1.out bn1.out)
      have G1 := Lib.hid g2
      have G2 := Lib.hid ((G2.out.setFar (p := ⟨b, off + i * 3 + 0, none⟩) bn2.out (.string (mTx (kk)))).only on2 ap2_1.out)
      clear g2 on2
      clear q0 z0 q1 z1 q2 z2
      have q0 := HEl.out.at (j := 0) rfl
      have z0 := HEl.out.frozen (off + i * 3)
      have q1 := HEl.out.at (j := 1) rfl
      have z1 := HEl.out.frozen (off + i * 3 + 1)
      have q2 := HEl.out.at (j := 2) rfl
      have z2 := HEl.out.frozen (off + i * 3 + 2)
      simp only [Nat.add_zero] at q0
      go_wp2_with fail
      refine (ZMO A2 _ c2 x.facts L2 base _ _ rfl (by omega) (by omega) (by omega) G2.out).mono ?_
      rintro e w3 ⟨rfl, g3, on3⟩
      have HEl := Lib.hid (HEl.out.marked on3 sb2.out bn2.out)
      have G1 := Lib.hid (G1.out.only on3 ap1_2.out)
      have G2 := Lib.hid g3
      clear g3 on3
      clear q0 z0 q1 z1 q2 z2
      have q0 := HEl.out.at (j := 0) rfl
      have z0 := HEl.out.frozen (off + i * 3)
      have q1 := HEl.out.at (j := 1) rfl
      have z1 := HEl.out.frozen (off + i * 3 + 1)
      have q2 := HEl.out.at (j := 2) rfl
      have z2 := HEl.out.frozen (off + i * 3 + 2)
      simp only [Nat.add_zero] at q0
      obtain ⟨nn1, mm1, ss1⟩ := ZeR G1.out.rep
      obtain ⟨nn2, mm2, ss2⟩ := ZeR G2.out.rep
      have hO2 := Lib.hid (ZLD HOwn.out HEl.out.plain HEl.out.only (fun y m => by (try simp only [List.mem_append] at m) <;> (rcases m with m | m <;> first | exact G1.out.own.plain y m | exact G2.out.own.plain y m)))
      have HGn := Lib.hid (HPut.out _ _ (ZMF kk x) HEl.out.only HEl.out.cells HEl.out.rest ⟨A1, c1, L1, A2, c2, L2, by simp [ZMF, ZLt, ZMd], rfl, ZLW _ (by omega), nn1, mm1, ss1, nn2, mm2, ss2⟩ hO2.out)
      have HOn := Lib.hid (HO.out.trans (HEl.out.only.mono (fun y m => by rcases List.mem_cons.1 m with rfl | m; exact hbL; exact HLk.out y m)))
      rw [hset.out] at HGn
      try simp only [Nat.add_zero] at HGn HOn
      clear HEl hO2 HPut G1 G2 nn1 nn2 mm1 mm2 ss1 ss2
      go_wp2_with fail
      go_roundw
      case rel => exact ⟨i + 1, ZLz kk x, _, by omega, by go_num, rfl, by unfold ZLz; omega, HDn, HGn, HOn⟩
      case measure => simp [intOf]; omega
    · obtain rfl : i = n := by omega
      have e : Hid (ds.drop i = []) := List.drop_of_length_le (by have := HN.out; omega)
      have hf : Hid (ZLe k ds = kk ∧ D = ZLI k ds) := by
        obtain ⟨h1, h2, h3⟩ := HD.out
        rw [e.out] at h3 h1
        simp [ZLI] at h3
        exact ⟨h1.symm, h3⟩
      rw [e.out, List.append_nil] at HG
      go_wp2
      go_ret
      exact ⟨ZL2 hf.out.1.symm, by rw [← hf.out.2]; exact HG.out, HO.out⟩

set_option maxRecDepth 100000 in
set_option maxHeartbeats 4000000 in
theorem ZOI (A : Option Addr) (n c : Nat) (ds : List ZMe) (L : List Nat) (base : Nat) (k : Int) (w : World) (hn : n = ds.length) (hm : n ≤ 9223372036854775807) (hk0 : 1 ≤ k) (hk1 : ZLk k ds ≤ 4611686018427387904) (h : Got (ZQ ZMg) base [.slice A n c] ds L w) :
    Calls Tryz.prog 40 #[.slice A n c, .int .i64 k] w fun e w' => e = .returned (.int .i64 (ZLk k ds)) ∧ Got (ZQ ZMg) base [.slice A n c] (ZLR k ds) L w' ∧ ZLq L w w' := by
  have H := Lib.hid h
  have HN := Lib.hid hn
  have HK := Lib.hid hk1
  clear h hn hk1
  go_enter Tryz.func40, Tryz.ntmps40
  go_wp2
  go_loopw [1, 5] (fun q j wr => ∃ (i : Nat) (kk : Int) (D : List ZMe), i ≤ n ∧ j = .int .i64 i ∧ q = .int .i64 kk ∧ 1 ≤ kk ∧ Hid (ZLk kk (ds.drop i) = ZLk k ds ∧ D.length = i ∧ D ++ ZLR kk (ds.drop i) = ZLR k ds) ∧ Hid (Got (ZQ ZMg) base [.slice A n c] (D ++ ds.drop i) L wr) ∧ Hid (ZLq L w wr)) (fun _ j _ => n - (intOf j).toNat)
  case atStart => exact ⟨0, k, [], Nat.zero_le _, rfl, rfl, hk0, ⟨rfl, rfl, rfl⟩, H.out, ZLq.refl _ _⟩
  case round =>
    obtain ⟨i, kk, D, hi, rfl, rfl, h1, HD, HG, HO⟩ := hrel
    by_cases hlt : i < n
    · have hil : i < ds.length := by have := HN.out; omega
      obtain ⟨hkk, hDl, hDm⟩ := HD.out
      have hcl : i < (D ++ ds.drop i).length := by simp; omega
      obtain ⟨b, off, cs, Lk, rfl, hbL, hLk, hown, hrep, hcells, hput⟩ := HG.out.focus hcl
      have hnext : Hid (ds.drop i = ds[i] :: ds.drop (i + 1)) := List.drop_eq_getElem_cons _
      have hxi : (D ++ ds.drop i)[i] = ds[i] := by
        rw [List.getElem_append_right (by omega)]; simp [hDl]
      rw [hxi] at hrep
      clear hxi
      generalize ds[i] = x at hrep hnext
      have hnb : Hid (ZLM kk x ≤ 4611686018427387904) := by
        have := ZMs (ZLM kk x) (ds.drop (i + 1))
        rw [hnext.out] at hkk
        have hk := HK.out
        rw [← hkk] at hk
        exact Int.le_trans this hk
      have hnb1 := hnb.out
      have hnb2 := ZNi kk x
      unfold ZLM at hnb1 hnb2
      have HDn : Hid (ZLk (ZLM kk x) (ds.drop (i + 1)) = ZLk k ds ∧ (D ++ [ZMZ kk x]).length = i + 1 ∧ (D ++ [ZMZ kk x]) ++ ZLR (ZLM kk x) (ds.drop (i + 1)) = ZLR k ds) := by
        refine ⟨by rw [← hkk, hnext.out]; rfl, by simp [hDl], ?_⟩
        rw [← hDm, hnext.out]; simp [ZLR]
      have hset : Hid ((D ++ ds.drop i).set i (ZMZ kk x) = (D ++ [ZMZ kk x]) ++ ds.drop (i + 1)) := by
        rw [Hid, List.set_append_right _ _ (by omega), show i - D.length = 0 by omega, hnext.out, List.set_cons_zero]; simp
      obtain ⟨A1, c1, L1, A2, c2, L2, rfl, hLL, t0, t1, t2, n1, m1, s1, n2, m2, s2⟩ := hrep
      unfold maxLen at m1 m2
      subst hLL
      have HEl := Lib.hid (ZMk.start (m := 8) hcells rfl hown)
      have hbn := Lib.hid hown.head
      have G1 : Hid (Got (ZQ ZsX) base [.slice A1 x.cond.pattern.args.length c1] x.cond.pattern.args L1 wr) := ⟨⟨A1, c1, rfl, n1, (by unfold maxLen; omega), s1⟩, hown.tail.left⟩
      have bn1 : Hid (b ∉ L1) := fun m => hown.head (by simp [m])
      have sb1 : Hid (∀ y ∈ L1, y ∈ L1 ++ L2) := fun y m => by simp [m]
      have ap1_2 : Hid (∀ y ∈ L1, y ∉ L2) := fun y m m' => hown.tail.apart y m (by simp [m'])
      have ap2_1 : Hid (∀ y ∈ L2, y ∉ L1) := fun y m m' => ap1_2.out y m' m
      have G2 : Hid (Got (ZQ ZlR) base [.slice A2 x.tokens.length c2] x.tokens L2 wr) := ⟨⟨A2, c2, rfl, n2, (by unfold maxLen; omega), s2⟩, hown.tail.right⟩
      have bn2 : Hid (b ∉ L2) := fun m => hown.head (by simp [m])
      have sb2 : Hid (∀ y ∈ L2, y ∈ L1 ++ L2) := fun y m => by simp [m]
      clear s1
      clear s2
      have HPut := Lib.hid hput
      have HOwn := Lib.hid hown
      have HLk := Lib.hid hLk
      clear hput hown hLk hcells hkk hDl hDm
      simp only [show ZMg.size = 8 from rfl] at HEl HPut
      have q0 := HEl.out.at (j := 0) rfl
      have z0 := HEl.out.frozen (off + i * 8)
      have q1 := HEl.out.at (j := 1) rfl
      have z1 := HEl.out.frozen (off + i * 8 + 1)
      have q2 := HEl.out.at (j := 2) rfl
      have z2 := HEl.out.frozen (off + i * 8 + 2)
      have q3 := HEl.out.at (j := 3) rfl
      have z3 := HEl.out.frozen (off + i * 8 + 3)
      have q4 := HEl.out.at (j := 4) rfl
      have z4 := HEl.out.frozen (off + i * 8 + 4)
      have q5 := HEl.out.at (j := 5) rfl
      have z5 := HEl.out.frozen (off + i * 8 + 5)
      have q6 := HEl.out.at (j := 6) rfl
      have z6 := HEl.out.frozen (off + i * 8 + 6)
      have q7 := HEl.out.at (j := 7) rfl
      have z7 := HEl.out.frozen (off + i * 8 + 7)
      simp only [Nat.add_zero] at q0
      have gm0 : (0 : Int) ≤ 0 := by omega
      have mono_x_cond_pattern_args := ZLj (kk + 1 + 1 + 1) x.cond.pattern.args
      have mono_x_tokens := ZMo (Qs (kk + 1 + 1 + 1) x.cond.pattern.args + 1 + 1 + 1) x.tokens
      go_wp2_with fail
      refine (ZLf _ _ (by omega) (by omega)).mono ?_
      rintro e w1 ⟨rfl, hb1⟩
      have HEl := Lib.hid (((HEl.out.set 0 (by omega) (.int .i64 (kk))).set 1 (by omega) (.int .i64 (kk + 1))).later hb1)
      have G1 := Lib.hid (((G1.out.setFar (p := ⟨b, off + i * 8 + 0, none⟩) bn1.out (.int .i64 (kk))).setFar (p := ⟨b, off + i * 8 + 1, none⟩) bn1.out (.int .i64 (kk + 1))).later hb1)
      have G2 := Lib.hid (((G2.out.setFar (p := ⟨b, off + i * 8 + 0, none⟩) bn2.out (.int .i64 (kk))).setFar (p := ⟨b, off + i * 8 + 1, none⟩) bn2.out (.int .i64 (kk + 1))).later hb1)
      clear hb1
      clear q0 z0 q1 z1 q2 z2 q3 z3 q4 z4 q5 z5 q6 z6 q7 z7
      have q0 := HEl.out.at (j := 0) rfl
      have z0 := HEl.out.frozen (off + i * 8)
      have q1 := HEl.out.at (j := 1) rfl
      have z1 := HEl.out.frozen (off + i * 8 + 1)
      have q2 := HEl.out.at (j := 2) rfl
      have z2 := HEl.out.frozen (off + i * 8 + 2)
      have q3 := HEl.out.at (j := 3) rfl
      have z3 := HEl.out.frozen (off + i * 8 + 3)
      have q4 := HEl.out.at (j := 4) rfl
      have z4 := HEl.out.frozen (off + i * 8 + 4)
      have q5 := HEl.out.at (j := 5) rfl
      have z5 := HEl.out.frozen (off + i * 8 + 5)
      have q6 := HEl.out.at (j := 6) rfl
      have z6 := HEl.out.frozen (off + i * 8 + 6)
      have q7 := HEl.out.at (j := 7) rfl
      have z7 := HEl.out.frozen (off + i * 8 + 7)
      simp only [Nat.add_zero] at q0
      go_wp2_with fail
      have G1 := Lib.hid (G1.out.setFar (p := ⟨b, off + i * 8 + 2, none⟩) bn1.out (.string (mTx (kk + 1 + 1))))
      refine (ZLX A1 _ c1 x.cond.pattern.args L1 base _ _ rfl (by omega) (by omega) G1.out).mono ?_
      rintro e w2 ⟨rfl, g2, on2⟩
      have HEl := Lib.hid ((HEl.out.set 2 (by omega) (.string (mTx (kk + 1 + 1)))).marked on2 sb1.out bn1.out)
      have G1 := Lib.hid g2
      have G2 := Lib.hid ((G2.out.setFar (p := ⟨b, off + i * 8 + 2, none⟩) bn2.out (.string (mTx (kk + 1 + 1)))).only on2 ap2_1.out)
      clear g2 on2
      clear q0 z0 q1 z1 q2 z2 q3 z3 q4 z4 q5 z5 q6 z6 q7 z7
      have q0 := HEl.out.at (j := 0) rfl
      have z0 := HEl.out.frozen (off + i * 8)
      have q1 := HEl.out.at (j := 1) rfl
      have z1 := HEl.out.frozen (off + i * 8 + 1)
      have q2 := HEl.out.at (j := 2) rfl
      have z2 := HEl.out.frozen (off + i * 8 + 2)
      have q3 := HEl.out.at (j := 3) rfl
      have z3 := HEl.out.frozen (off + i * 8 + 3)
      have q4 := HEl.out.at (j := 4) rfl
      have z4 := HEl.out.frozen (off + i * 8 + 4)
      have q5 := HEl.out.at (j := 5) rfl
      have z5 := HEl.out.frozen (off + i * 8 + 5)
      have q6 := HEl.out.at (j := 6) rfl
      have z6 := HEl.out.frozen (off + i * 8 + 6)
      have q7 := HEl.out.at (j := 7) rfl
      have z7 := HEl.out.frozen (off + i * 8 + 7)
      simp only [Nat.add_zero] at q0
      go_wp2_with fail
      refine (ZLf _ _ (by omega) (by omega)).mono ?_
      rintro e w3 ⟨rfl, hb3⟩
      have HEl := Lib.hid (HEl.out.later hb3)
      have G1 := Lib.hid (G1.out.later hb3)
      have G2 := Lib.hid (G2.out.later hb3)
      clear hb3
      clear q0 z0 q1 z1 q2 z2 q3 z3 q4 z4 q5 z5 q6 z6 q7 z7
      have q0 := HEl.out.at (j := 0) rfl
      have z0 := HEl.out.frozen (off + i * 8)
      have q1 := HEl.out.at (j := 1) rfl
      have z1 := HEl.out.frozen (off + i * 8 + 1)
      have q2 := HEl.out.at (j := 2) rfl
      have z2 := HEl.out.frozen (off + i * 8 + 2)
      have q3 := HEl.out.at (j := 3) rfl
      have z3 := HEl.out.frozen (off + i * 8 + 3)
      have q4 := HEl.out.at (j := 4) rfl
      have z4 := HEl.out.frozen (off + i * 8 + 4)
      have q5 := HEl.out.at (j := 5) rfl
      have z5 := HEl.out.frozen (off + i * 8 + 5)
      have q6 := HEl.out.at (j := 6) rfl
      have z6 := HEl.out.frozen (off + i * 8 + 6)
      have q7 := HEl.out.at (j := 7) rfl
      have z7 := HEl.out.frozen (off + i * 8 + 7)
      simp only [Nat.add_zero] at q0
      go_wp2_with fail
      refine (ZLf _ _ (by omega) (by omega)).mono ?_
      rintro e w4 ⟨rfl, hb4⟩
      have HEl := Lib.hid ((HEl.out.set 4 (by omega) (.string (mTx (Qs (kk + 1 + 1 + 1) x.cond.pattern.args)))).later hb4)
      have G1 := Lib.hid ((G1.out.setFar (p := ⟨b, off + i * 8 + 4, none⟩) bn1.out (.string (mTx (Qs (kk + 1 + 1 + 1) x.cond.pattern.args)))).later hb4)
      have G2 := Lib.hid ((G2.out.setFar (p := ⟨b, off + i * 8 + 4, none⟩) bn2.out (.string (mTx (Qs (kk + 1 + 1 + 1) x.cond.pattern.args)))).later hb4)
      clear hb4
      clear q0 z0 q1 z1 q2 z2 q3 z3 q4 z4 q5 z5 q6 z6 q7 z7
      have q0 := HEl.out.at (j := 0) rfl
      have z0 := HEl.out.frozen (off + i * 8)
      have q1 := HEl.out.at (j := 1) rfl
      have z1 := HEl.out.frozen (off + i * 8 + 1)
      have q2 := HEl.out.at (j := 2) rfl
      have z2 := HEl.out.frozen (off + i * 8 + 2)
      have q3 := HEl.out.at (j := 3) rfl
      have z3 := HEl.out.frozen (off + i * 8 + 3)
      have q4 := HEl.out.at (j := 4) rfl
      have z4 := HEl.out.frozen (off + i * 8 + 4)
      have q5 := HEl.out.at (j := 5) rfl
      have z5 := HEl.out.frozen (off + i * 8 + 5)
      have q6 := HEl.out.at (j := 6) rfl
      have z6 := HEl.out.frozen (off + i * 8 + 6)
      have q7 := HEl.out.at (j := 7) rfl
      have z7 := HEl.out.frozen (off + i * 8 + 7)
      simp only [Nat.add_zero] at q0
      go_wp2_with fail
      have G2 := Lib.hid ((G2.out.setFar (p := ⟨b, off + i * 8 + 5, none⟩) bn2.out (.string (mTx (Qs (kk + 1 + 1 + 1) x.cond.pattern.args + 1)))).setFar (p := ⟨b, off + i * 8 + 6, none⟩) bn2.out (.int .i64 (Qs (kk + 1 + 1 + 1) x.cond.pattern.args + 1 + 1)))
      refine (ZOm A2 _ c2 x.tokens L2 base _ _ rfl (by omega) (by omega) (by omega) G2.out).mono ?_
      rintro e w5 ⟨rfl, g5, on5⟩
      have HEl := Lib.hid (((HEl.out.set 5 (by omega) (.string (mTx (Qs (kk + 1 + 1 + 1) x.cond.pattern.args + 1)))).set 6 (by omega) (.int .i64 (Qs (kk + 1 + 1 + 1) x.cond.pattern.args + 1 + 1))).marked on5 sb2.out bn2.out)
      have G1 := Lib.hid (((G1.out.setFar (p := ⟨b, off + i * 8 + 5, none⟩) bn1.out (.string (mTx (Qs (kk + 1 + 1 + 1) x.cond.pattern.args + 1)))).setFar (p := ⟨b, off + i * 8 + 6, none⟩) bn1.out (.int .i64 (Qs (kk + 1 + 1 + 1) x.cond.pattern.args + 1 + 1))).only on5 ap1_2.out)
      have G2 := Lib.hid g5
      clear g5 on5
      clear q0 z0 q1 z1 q2 z2 q3 z3 q4 z4 q5 z5 q6 z6 q7 z7
      have q0 := HEl.out.at (j := 0) rfl
      have z0 := HEl.out.frozen (off + i * 8)
      have q1 := HEl.out.at (j := 1) rfl
      have z1 := HEl.out.frozen (off + i * 8 + 1)
      have q2 := HEl.out.at (j := 2) rfl
      have z2 := HEl.out.frozen (off + i * 8 + 2)
      have q3 := HEl.out.at (j := 3) rfl
      have z3 := HEl.out.frozen (off + i * 8 + 3)
      have q4 := HEl.out.at (j := 4) rfl
      have z4 := HEl.out.frozen (off + i * 8 + 4)
      have q5 := HEl.out.at (j := 5) rfl
      have z5 := HEl.out.frozen (off + i * 8 + 5)
      have q6 := HEl.out.at (j := 6) rfl
      have z6 := HEl.out.frozen (off + i * 8 + 6)
      have q7 := HEl.out.at (j := 7) rfl
      have z7 := HEl.out.frozen (off + i * 8 + 7)
      simp only [Nat.add_zero] at q0
      obtain ⟨nn1, mm1, ss1⟩ := ZeR G1.out.rep
      obtain ⟨nn2, mm2, ss2⟩ := ZeR G2.out.rep
      have hO2 := Lib.hid (ZLD HOwn.out HEl.out.plain HEl.out.only (fun y m => by (try simp only [List.mem_append] at m) <;> (rcases m with m | m <;> first | exact G1.out.own.plain y m | exact G2.out.own.plain y m)))
      have HGn := Lib.hid (HPut.out _ _ (ZMZ kk x) HEl.out.only HEl.out.cells HEl.out.rest ⟨A1, c1, L1, A2, c2, L2, by simp [ZMZ, ZLt, ZMW], rfl, ZLW _ (by omega), ZLW _ (by omega), ZLW _ (by omega), nn1, mm1, ss1, nn2, mm2, ss2⟩ hO2.out)
      have HOn := Lib.hid (HO.out.trans (HEl.out.only.mono (fun y m => by rcases List.mem_cons.1 m with rfl | m; exact hbL; exact HLk.out y m)))
      rw [hset.out] at HGn
      try simp only [Nat.add_zero] at HGn HOn
      clear HEl hO2 HPut G1 G2 nn1 nn2 mm1 mm2 ss1 ss2
      go_wp2_with fail
      go_roundw
      case rel => exact ⟨i + 1, ZLM kk x, _, by omega, by go_num, rfl, by unfold ZLM; omega, HDn, HGn, HOn⟩
      case measure => simp [intOf]; omega
    · obtain rfl : i = n := by omega
      have e : Hid (ds.drop i = []) := List.drop_of_length_le (by have := HN.out; omega)
      have hf : Hid (ZLk k ds = kk ∧ D = ZLR k ds) := by
        obtain ⟨h1, h2, h3⟩ := HD.out
        rw [e.out] at h3 h1
        simp [ZLR] at h3
        exact ⟨h1.symm, h3⟩
      rw [e.out, List.append_nil] at HG
      go_wp2
      go_ret
      exact ⟨ZL2 hf.out.1.symm, by rw [← hf.out.2]; exact HG.out, HO.out⟩

def ZNE (k : Int) (x : ZMb) : ZMb := ⟨ZLy (k) x.rules, ZLY (ZLc (k) x.rules) x.ends, ZLI (ZLg (ZLc (k) x.rules) x.ends) x.alphas, ZLR (ZLe (ZLg (ZLc (k) x.rules) x.ends) x.alphas) x.nodes, ZLK (ZLk (ZLe (ZLg (ZLc (k) x.rules) x.ends) x.alphas) x.nodes) x.facts, x.tries⟩
def ZLQ (k : Int) (x : ZMb) : Int := ZLl (ZLk (ZLe (ZLg (ZLc (k) x.rules) x.ends) x.alphas) x.nodes) x.facts
theorem ZMz (k : Int) (x : ZMb) : k ≤ ZLQ k x := by
  unfold ZLQ
  have := ZMa (k) x.rules
  have := ZMp (ZLc (k) x.rules) x.ends
  have := ZMm (ZLg (ZLc (k) x.rules) x.ends) x.alphas
  have := ZMs (ZLe (ZLg (ZLc (k) x.rules) x.ends) x.alphas) x.nodes
  have := ZLT (ZLk (ZLe (ZLg (ZLc (k) x.rules) x.ends) x.alphas) x.nodes) x.facts
  omega
theorem ZOd (k : Int) (x : ZMb) : ZLQ k x ≤ k + 16 * ZNc x := by
  unfold ZLQ
  have := ZNN (k) x.rules
  have := ZN1 (ZLc (k) x.rules) x.ends
  have := ZOH (ZLg (ZLc (k) x.rules) x.ends) x.alphas
  have := ZPc (ZLe (ZLg (ZLc (k) x.rules) x.ends) x.alphas) x.nodes
  have := ZMV (ZLk (ZLe (ZLg (ZLc (k) x.rules) x.ends) x.alphas) x.nodes) x.facts
  simp only [ZNc]
  omega
set_option maxHeartbeats 1600000 in
theorem ZOx (x : ZMb) (A1 : Option Addr) (c1 : Nat) (L1 : List Nat) (A2 : Option Addr) (c2 : Nat) (L2 : List Nat) (A3 : Option Addr) (c3 : Nat) (L3 : List Nat) (A4 : Option Addr) (c4 : Nat) (L4 : List Nat) (A5 : Option Addr) (c5 : Nat) (L5 : List Nat) (base : Nat) (k : Int) (w : World) (hk0 : 1 ≤ k) (hk1 : ZLQ k x ≤ 4611686018427387904) (l1 : x.rules.length ≤ 9223372036854775807) (l2 : x.ends.length ≤ 9223372036854775807) (l3 : x.alphas.length ≤ 9223372036854775807) (l4 : x.nodes.length ≤ 9223372036854775807) (l5 : x.facts.length ≤ 9223372036854775807) (g1 : Got (ZQ Zby) base [.slice A1 x.rules.length c1] (x.rules) L1 w) (g2 : Got (ZQ Zj7) base [.slice A2 x.ends.length c2] (x.ends) L2 w) (g3 : Got (ZQ ZL7) base [.slice A3 x.alphas.length c3] (x.alphas) L3 w) (g4 : Got (ZQ ZMg) base [.slice A4 x.nodes.length c4] (x.nodes) L4 w) (g5 : Got (ZQ Yf) base [.slice A5 x.facts.length c5] (x.facts) L5 w) (p1_2 : ∀ y ∈ L1, y ∉ L2) (p1_3 : ∀ y ∈ L1, y ∉ L3) (p1_4 : ∀ y ∈ L1, y ∉ L4) (p1_5 : ∀ y ∈ L1, y ∉ L5) (p2_3 : ∀ y ∈ L2, y ∉ L3) (p2_4 : ∀ y ∈ L2, y ∉ L4) (p2_5 : ∀ y ∈ L2, y ∉ L5) (p3_4 : ∀ y ∈ L3, y ∉ L4) (p3_5 : ∀ y ∈ L3, y ∉ L5) (p4_5 : ∀ y ∈ L4, y ∉ L5) :
    Calls Tryz.prog 16 #[.agg #[.slice A1 x.rules.length c1, .slice A2 x.ends.length c2, .slice A3 x.alphas.length c3, .slice A4 x.nodes.length c4, .slice A5 x.facts.length c5, .int .i64 x.tries], .int .i64 k] w fun e w' => e = .returned (.int .i64 (ZLQ k x)) ∧ Got (ZQ Zby) base [.slice A1 x.rules.length c1] (ZLy (k) x.rules) L1 w' ∧ Got (ZQ Zj7) base [.slice A2 x.ends.length c2] (ZLY (ZLc (k) x.rules) x.ends) L2 w' ∧ Got (ZQ ZL7) base [.slice A3 x.alphas.length c3] (ZLI (ZLg (ZLc (k) x.rules) x.ends) x.alphas) L3 w' ∧ Got (ZQ ZMg) base [.slice A4 x.nodes.length c4] (ZLR (ZLe (ZLg (ZLc (k) x.rules) x.ends) x.alphas) x.nodes) L4 w' ∧ Got (ZQ Yf) base [.slice A5 x.facts.length c5] (ZLK (ZLk (ZLe (ZLg (ZLc (k) x.rules) x.ends) x.alphas) x.nodes) x.facts) L5 w' ∧ ZLq (L1 ++ (L2 ++ (L3 ++ (L4 ++ L5)))) w w' := by
  have bn1 : Hid (w.heap.size ∉ L1) := fun m => Nat.lt_irrefl _ (g1.lt _ m)
  have bn2 : Hid (w.heap.size ∉ L2) := fun m => Nat.lt_irrefl _ (g2.lt _ m)
  have bn3 : Hid (w.heap.size ∉ L3) := fun m => Nat.lt_irrefl _ (g3.lt _ m)
  have bn4 : Hid (w.heap.size ∉ L4) := fun m => Nat.lt_irrefl _ (g4.lt _ m)
  have bn5 : Hid (w.heap.size ∉ L5) := fun m => Nat.lt_irrefl _ (g5.lt _ m)
  have G1 := Lib.hid (g1.alloc (.cells #[.slice A1 x.rules.length c1, .slice A2 x.ends.length c2, .slice A3 x.alphas.length c3, .slice A4 x.nodes.length c4, .slice A5 x.facts.length c5, .int .i64 x.tries] 33))
  have G2 := Lib.hid (g2.alloc (.cells #[.slice A1 x.rules.length c1, .slice A2 x.ends.length c2, .slice A3 x.alphas.length c3, .slice A4 x.nodes.length c4, .slice A5 x.facts.length c5, .int .i64 x.tries] 33))
  have G3 := Lib.hid (g3.alloc (.cells #[.slice A1 x.rules.length c1, .slice A2 x.ends.length c2, .slice A3 x.alphas.length c3, .slice A4 x.nodes.length c4, .slice A5 x.facts.length c5, .int .i64 x.tries] 33))
  have G4 := Lib.hid (g4.alloc (.cells #[.slice A1 x.rules.length c1, .slice A2 x.ends.length c2, .slice A3 x.alphas.length c3, .slice A4 x.nodes.length c4, .slice A5 x.facts.length c5, .int .i64 x.tries] 33))
  have G5 := Lib.hid (g5.alloc (.cells #[.slice A1 x.rules.length c1, .slice A2 x.ends.length c2, .slice A3 x.alphas.length c3, .slice A4 x.nodes.length c4, .slice A5 x.facts.length c5, .int .i64 x.tries] 33))
  have ap1_2 := Lib.hid p1_2
  have ap2_1 : Hid (∀ y ∈ L2, y ∉ L1) := fun y m m' => p1_2 y m' m
  have ap1_3 := Lib.hid p1_3
  have ap3_1 : Hid (∀ y ∈ L3, y ∉ L1) := fun y m m' => p1_3 y m' m
  have ap1_4 := Lib.hid p1_4
  have ap4_1 : Hid (∀ y ∈ L4, y ∉ L1) := fun y m m' => p1_4 y m' m
  have ap1_5 := Lib.hid p1_5
  have ap5_1 : Hid (∀ y ∈ L5, y ∉ L1) := fun y m m' => p1_5 y m' m
  have ap2_3 := Lib.hid p2_3
  have ap3_2 : Hid (∀ y ∈ L3, y ∉ L2) := fun y m m' => p2_3 y m' m
  have ap2_4 := Lib.hid p2_4
  have ap4_2 : Hid (∀ y ∈ L4, y ∉ L2) := fun y m m' => p2_4 y m' m
  have ap2_5 := Lib.hid p2_5
  have ap5_2 : Hid (∀ y ∈ L5, y ∉ L2) := fun y m m' => p2_5 y m' m
  have ap3_4 := Lib.hid p3_4
  have ap4_3 : Hid (∀ y ∈ L4, y ∉ L3) := fun y m m' => p3_4 y m' m
  have ap3_5 := Lib.hid p3_5
  have ap5_3 : Hid (∀ y ∈ L5, y ∉ L3) := fun y m m' => p3_5 y m' m
  have ap4_5 := Lib.hid p4_5
  have ap5_4 : Hid (∀ y ∈ L5, y ∉ L4) := fun y m m' => p4_5 y m' m
  have K0 : Hid (Blk (w.alloc (.cells #[.slice A1 x.rules.length c1, .slice A2 x.ends.length c2, .slice A3 x.alphas.length c3, .slice A4 x.nodes.length c4, .slice A5 x.facts.length c5, .int .i64 x.tries] 33)) w.heap.size 33 #[.slice A1 x.rules.length c1, .slice A2 x.ends.length c2, .slice A3 x.alphas.length c3, .slice A4 x.nodes.length c4, .slice A5 x.facts.length c5, .int .i64 x.tries]) := Blk.new _ _ _
  have O0 : Hid (ZLq (L1 ++ (L2 ++ (L3 ++ (L4 ++ L5)))) w (w.alloc (.cells #[.slice A1 x.rules.length c1, .slice A2 x.ends.length c2, .slice A3 x.alphas.length c3, .slice A4 x.nodes.length c4, .slice A5 x.facts.length c5, .int .i64 x.tries] 33))) := ZLq.of_below ((Below.refl _ _).alloc (Nat.le_refl _) _) _
  clear g1 g2 g3 g4 g5 p1_2 p1_3 p1_4 p1_5 p2_3 p2_4 p2_5 p3_4 p3_5 p4_5
  unfold ZLQ at hk1
  have := ZMa (k) x.rules
  have := ZMp (ZLc (k) x.rules) x.ends
  have := ZMm (ZLg (ZLc (k) x.rules) x.ends) x.alphas
  have := ZMs (ZLe (ZLg (ZLc (k) x.rules) x.ends) x.alphas) x.nodes
  have := ZLT (ZLk (ZLe (ZLg (ZLc (k) x.rules) x.ends) x.alphas) x.nodes) x.facts
  go_enter Tryz.func16, Tryz.ntmps16
  go_wp2_with fail
  refine (ZNt A1 _ c1 x.rules L1 base _ _ rfl (by omega) (by omega) (by omega) G1.out).mono ?_
  rintro e w1 ⟨rfl, h1, on1⟩
  have G1 := Lib.hid h1
  have G2 := Lib.hid (G2.out.only on1 ap2_1.out)
  have G3 := Lib.hid (G3.out.only on1 ap3_1.out)
  have G4 := Lib.hid (G4.out.only on1 ap4_1.out)
  have G5 := Lib.hid (G5.out.only on1 ap5_1.out)
  have K1 := Lib.hid (ZMc K0.out on1 bn1.out)
  have f0 := K1.out.at (i := 0) rfl
  have f1 := K1.out.at (i := 1) rfl
  have f2 := K1.out.at (i := 2) rfl
  have f3 := K1.out.at (i := 3) rfl
  have f4 := K1.out.at (i := 4) rfl
  have f5 := K1.out.at (i := 5) rfl
  have O1 : Hid (ZLq (L1 ++ (L2 ++ (L3 ++ (L4 ++ L5)))) w w1) := O0.out.trans (on1.mono (fun y m => by first | exact m | (simp [m]; done) | (simp only [List.mem_append] at m ⊢; (repeat' (refine Or.elim m (fun m => ?_) (fun m => ?_))) <;> simp [m])))
  clear on1 h1
  go_wp2_with fail
  refine (ZNH A2 _ c2 x.ends L2 base _ _ rfl (by omega) (by omega) G2.out).mono ?_
  rintro e w2 ⟨rfl, h2, on2⟩
  have G1 := Lib.hid (G1.out.only on2 ap1_2.out)
  have G2 := Lib.hid h2
  have G3 := Lib.hid (G3.out.only on2 ap3_2.out)
  have G4 := Lib.hid (G4.out.only on2 ap4_2.out)
  have G5 := Lib.hid (G5.out.only on2 ap5_2.out)
  have K2 := Lib.hid (ZMc K1.out on2 bn2.out)
  clear f0 f1 f2 f3 f4 f5
  have f0 := K2.out.at (i := 0) rfl
  have f1 := K2.out.at (i := 1) rfl
  have f2 := K2.out.at (i := 2) rfl
  have f3 := K2.out.at (i := 3) rfl
  have f4 := K2.out.at (i := 4) rfl
  have f5 := K2.out.at (i := 5) rfl
  have O2 : Hid (ZLq (L1 ++ (L2 ++ (L3 ++ (L4 ++ L5)))) w w2) := O1.out.trans (on2.mono (fun y m => by first | exact m | (simp [m]; done) | (simp only [List.mem_append] at m ⊢; (repeat' (refine Or.elim m (fun m => ?_) (fun m => ?_))) <;> simp [m])))
  clear on2 h2
  go_wp2_with fail
  refine (ZOA A3 _ c3 x.alphas L3 base _ _ rfl (by omega) (by omega) (by omega) G3.out).mono ?_
  rintro e w3 ⟨rfl, h3, on3⟩
  have G1 := Lib.hid (G1.out.only on3 ap1_3.out)
  have G2 := Lib.hid (G2.out.only on3 ap2_3.out)
  have G3 := Lib.hid h3
  have G4 := Lib.hid (G4.out.only on3 ap4_3.out)
  have G5 := Lib.hid (G5.out.only on3 ap5_3.out)
  have K3 := Lib.hid (ZMc K2.out on3 bn3.out)
  clear f0 f1 f2 f3 f4 f5
  have f0 := K3.out.at (i := 0) rfl
  have f1 := K3.out.at (i := 1) rfl
  have f2 := K3.out.at (i := 2) rfl
  have f3 := K3.out.at (i := 3) rfl
  have f4 := K3.out.at (i := 4) rfl
  have f5 := K3.out.at (i := 5) rfl
  have O3 : Hid (ZLq (L1 ++ (L2 ++ (L3 ++ (L4 ++ L5)))) w w3) := O2.out.trans (on3.mono (fun y m => by first | exact m | (simp [m]; done) | (simp only [List.mem_append] at m ⊢; (repeat' (refine Or.elim m (fun m => ?_) (fun m => ?_))) <;> simp [m])))
  clear on3 h3
  go_wp2_with fail
  refine (ZOI A4 _ c4 x.nodes L4 base _ _ rfl (by omega) (by omega) (by omega) G4.out).mono ?_
  rintro e w4 ⟨rfl, h4, on4⟩
  have G1 := Lib.hid (G1.out.only on4 ap1_4.out)
  have G2 := Lib.hid (G2.out.only on4 ap2_4.out)
  have G3 := Lib.hid (G3.out.only on4 ap3_4.out)
  have G4 := Lib.hid h4
  have G5 := Lib.hid (G5.out.only on4 ap5_4.out)
  have K4 := Lib.hid (ZMc K3.out on4 bn4.out)
  clear f0 f1 f2 f3 f4 f5
  have f0 := K4.out.at (i := 0) rfl
  have f1 := K4.out.at (i := 1) rfl
  have f2 := K4.out.at (i := 2) rfl
  have f3 := K4.out.at (i := 3) rfl
  have f4 := K4.out.at (i := 4) rfl
  have f5 := K4.out.at (i := 5) rfl
  have O4 : Hid (ZLq (L1 ++ (L2 ++ (L3 ++ (L4 ++ L5)))) w w4) := O3.out.trans (on4.mono (fun y m => by first | exact m | (simp [m]; done) | (simp only [List.mem_append] at m ⊢; (repeat' (refine Or.elim m (fun m => ?_) (fun m => ?_))) <;> simp [m])))
  clear on4 h4
  go_wp2_with fail
  refine (ZMO A5 _ c5 x.facts L5 base _ _ rfl (by omega) (by omega) (by omega) G5.out).mono ?_
  rintro e w5 ⟨rfl, h5, on5⟩
  have G1 := Lib.hid (G1.out.only on5 ap1_5.out)
  have G2 := Lib.hid (G2.out.only on5 ap2_5.out)
  have G3 := Lib.hid (G3.out.only on5 ap3_5.out)
  have G4 := Lib.hid (G4.out.only on5 ap4_5.out)
  have G5 := Lib.hid h5
  have K5 := Lib.hid (ZMc K4.out on5 bn5.out)
  clear f0 f1 f2 f3 f4 f5
  have f0 := K5.out.at (i := 0) rfl
  have f1 := K5.out.at (i := 1) rfl
  have f2 := K5.out.at (i := 2) rfl
  have f3 := K5.out.at (i := 3) rfl
  have f4 := K5.out.at (i := 4) rfl
  have f5 := K5.out.at (i := 5) rfl
  have O5 : Hid (ZLq (L1 ++ (L2 ++ (L3 ++ (L4 ++ L5)))) w w5) := O4.out.trans (on5.mono (fun y m => by first | exact m | (simp [m]; done) | (simp only [List.mem_append] at m ⊢; (repeat' (refine Or.elim m (fun m => ?_) (fun m => ?_))) <;> simp [m])))
  clear on5 h5
  go_wp2_with fail
  go_ret
  exact ⟨ZL2 rfl, G1.out, G2.out, G3.out, G4.out, G5.out, O5.out⟩
set_option maxRecDepth 100000 in
set_option maxHeartbeats 4000000 in
theorem ZOt (A : Option Addr) (n c : Nat) (ds : List ZL5) (L : List Nat) (base : Nat) (k : Int) (w : World) (hn : n = ds.length) (hm : n ≤ 9223372036854775807) (hk0 : 1 ≤ k) (hk1 : ZLd k ds ≤ 4611686018427387904) (h : Got (ZQ ZL8) base [.slice A n c] ds L w) :
    Calls Tryz.prog 35 #[.slice A n c, .int .i64 k] w fun e w' => e = .returned (.int .i64 (ZLd k ds)) ∧ Got (ZQ ZL8) base [.slice A n c] (ZLH k ds) L w' ∧ ZLq L w w' := by
  have H := Lib.hid h
  have HN := Lib.hid hn
  have HK := Lib.hid hk1
  clear h hn hk1
  go_enter Tryz.func35, Tryz.ntmps35
  go_wp2
  go_loopw [1, 5] (fun q j wr => ∃ (i : Nat) (kk : Int) (D : List ZL5), i ≤ n ∧ j = .int .i64 i ∧ q = .int .i64 kk ∧ 1 ≤ kk ∧ Hid (ZLd kk (ds.drop i) = ZLd k ds ∧ D.length = i ∧ D ++ ZLH kk (ds.drop i) = ZLH k ds) ∧ Hid (Got (ZQ ZL8) base [.slice A n c] (D ++ ds.drop i) L wr) ∧ Hid (ZLq L w wr)) (fun _ j _ => n - (intOf j).toNat)
  case atStart => exact ⟨0, k, [], Nat.zero_le _, rfl, rfl, hk0, ⟨rfl, rfl, rfl⟩, H.out, ZLq.refl _ _⟩
  case round =>
    obtain ⟨i, kk, D, hi, rfl, rfl, h1, HD, HG, HO⟩ := hrel
    by_cases hlt : i < n
    · have hil : i < ds.length := by have := HN.out; omega
      obtain ⟨hkk, hDl, hDm⟩ := HD.out
      have hcl : i < (D ++ ds.drop i).length := by simp; omega
      obtain ⟨b, off, cs, Lk, rfl, hbL, hLk, hown, hrep, hcells, hput⟩ := HG.out.focus hcl
      have hnext : Hid (ds.drop i = ds[i] :: ds.drop (i + 1)) := List.drop_eq_getElem_cons _
      have hxi : (D ++ ds.drop i)[i] = ds[i] := by
        rw [List.getElem_append_right (by omega)]; simp [hDl]
      rw [hxi] at hrep
      clear hxi
      generalize ds[i] = x at hrep hnext
      have hnb : Hid (ZLB kk x ≤ 4611686018427387904) := by
        have := ZMl (ZLB kk x) (ds.drop (i + 1))
        rw [hnext.out] at hkk
        have hk := HK.out
        rw [← hkk] at hk
        exact Int.le_trans this hk
      have hnb1 := hnb.out
      have hnb2 := ZM3 kk x
      unfold ZLB at hnb1 hnb2
      have HDn : Hid (ZLd (ZLB kk x) (ds.drop (i + 1)) = ZLd k ds ∧ (D ++ [ZML kk x]).length = i + 1 ∧ (D ++ [ZML kk x]) ++ ZLH (ZLB kk x) (ds.drop (i + 1)) = ZLH k ds) := by
        refine ⟨by rw [← hkk, hnext.out]; rfl, by simp [hDl], ?_⟩
        rw [← hDm, hnext.out]; simp [ZLH]
      have hset : Hid ((D ++ ds.drop i).set i (ZML kk x) = (D ++ [ZML kk x]) ++ ds.drop (i + 1)) := by
        rw [Hid, List.set_append_right _ _ (by omega), show i - D.length = 0 by omega, hnext.out, List.set_cons_zero]; simp
      obtain ⟨A1, c1, L1, rfl, hLL, t0, n1, m1, s1⟩ := hrep
      unfold maxLen at m1
      subst Lk
      have HEl := Lib.hid (ZMk.start (m := 3) hcells rfl hown)
      have hbn := Lib.hid hown.head
      have G1 : Hid (Got (ZQ ZsX) base [.slice A1 x.fact.args.length c1] x.fact.args L1 wr) := ⟨⟨A1, c1, rfl, n1, (by unfold maxLen; omega), s1⟩, hown.tail⟩
      have bn1 : Hid (b ∉ L1) := fun m => hown.head (by simp [m])
      have sb1 : Hid (∀ y ∈ L1, y ∈ L1) := fun y m => by simp [m]
      clear s1
      have HPut := Lib.hid hput
      have HOwn := Lib.hid hown
      have HLk := Lib.hid hLk
      clear hput hown hLk hcells hkk hDl hDm
      simp only [show ZL8.size = 3 from rfl] at HEl HPut
      have q0 := HEl.out.at (j := 0) rfl
      have z0 := HEl.out.frozen (off + i * 3)
      have q1 := HEl.out.at (j := 1) rfl
      have z1 := HEl.out.frozen (off + i * 3 + 1)
      have q2 := HEl.out.at (j := 2) rfl
      have z2 := HEl.out.frozen (off + i * 3 + 2)
      simp only [Nat.add_zero] at q0
      have gm0 : (0 : Int) ≤ 0 := by omega
      have mono_x_fact_args := ZLj (kk + 1) x.fact.args
      go_wp2_with fail
      refine (ZLf _ _ (by omega) (by omega)).mono ?_
      rintro e w1 ⟨rfl, hb1⟩
      have HEl := Lib.hid (HEl.out.later hb1)
      have G1 := Lib.hid (G1.out.later hb1)
      clear hb1
      clear q0 z0 q1 z1 q2 z2
      have q0 := HEl.out.at (j := 0) rfl
      have z0 := HEl.out.frozen (off + i * 3)
      have q1 := HEl.out.at (j := 1) rfl
      have z1 := HEl.out.frozen (off + i * 3 + 1)
      have q2 := HEl.out.at (j := 2) rfl
      have z2 := HEl.out.frozen (off + i * 3 + 2)
      simp only [Nat.add_zero] at q0
      go_wp2_with fail
      have G1 := Lib.hid (G1.out.setFar (p := ⟨b, off + i * 3 + 0, none⟩) bn1.out (.string (mTx (kk))))
      refine (ZLX A1 _ c1 x.fact.args L1 base _ _ rfl (by omega) (by omega) G1.out).mono ?_
      rintro e w2 ⟨rfl, g2, on2⟩
      have HEl := Lib.hid ((HEl.out.set 0 (by omega) (.string (mTx (kk)))).marked on2 sb1.out bn1.out)
      have G1 := Lib.hid g2
      clear g2 on2
      clear q0 z0 q1 z1 q2 z2
      have q0 := HEl.out.at (j := 0) rfl
      have z0 := HEl.out.frozen (off + i * 3)
      have q1 := HEl.out.at (j := 1) rfl
      have z1 := HEl.out.frozen (off + i * 3 + 1)
      have q2 := HEl.out.at (j := 2) rfl
      have z2 := HEl.out.frozen (off + i * 3 + 2)
      simp only [Nat.add_zero] at q0
      have HEl := Lib.hid (HEl.out.set 2 (by omega) (.int .i64 (Qs (kk + 1) x.fact.args)))
      have G1 := Lib.hid (G1.out.setFar (p := ⟨b, off + i * 3 + 2, none⟩) bn1.out (.int .i64 (Qs (kk + 1) x.fact.args)))
      obtain ⟨nn1, mm1, ss1⟩ := ZeR G1.out.rep
      have hO2 := Lib.hid (ZLD HOwn.out HEl.out.plain HEl.out.only (fun y m => by (try simp only [List.mem_append] at m) <;> (exact G1.out.own.plain y m)))
      have HGn := Lib.hid (HPut.out _ _ (ZML kk x) HEl.out.only HEl.out.cells HEl.out.rest ⟨A1, c1, L1, by simp [ZML, ZLt], rfl, ZLW _ (by omega), nn1, mm1, ss1⟩ hO2.out)
      have HOn := Lib.hid (HO.out.trans (HEl.out.only.mono (fun y m => by rcases List.mem_cons.1 m with rfl | m; exact hbL; exact HLk.out y m)))
      rw [hset.out] at HGn
      try simp only [Nat.add_zero] at HGn HOn
      clear HEl hO2 HPut G1 nn1 mm1 ss1
      go_wp2_with fail
      go_roundw
      case rel => exact ⟨i + 1, ZLB kk x, _, by omega, by go_num, rfl, by unfold ZLB; omega, HDn, HGn, HOn⟩
      case measure => simp [intOf]; omega
    · obtain rfl : i = n := by omega
      have e : Hid (ds.drop i = []) := List.drop_of_length_le (by have := HN.out; omega)
      have hf : Hid (ZLd k ds = kk ∧ D = ZLH k ds) := by
        obtain ⟨h1, h2, h3⟩ := HD.out
        rw [e.out] at h3 h1
        simp [ZLH] at h3
        exact ⟨h1.symm, h3⟩
      rw [e.out, List.append_nil] at HG
      go_wp2
      go_ret
      exact ⟨ZL2 hf.out.1.symm, by rw [← hf.out.2]; exact HG.out, HO.out⟩

set_option maxRecDepth 100000 in
set_option maxHeartbeats 4000000 in
theorem ZOe (A : Option Addr) (n c : Nat) (ds : List ZLS) (L : List Nat) (base : Nat) (k : Int) (w : World) (hn : n = ds.length) (hm : n ≤ 9223372036854775807) (hk0 : 1 ≤ k) (hk1 : ZLi k ds ≤ 4611686018427387904) (h : Got (ZQ ZLV) base [.slice A n c] ds L w) :
    Calls Tryz.prog 36 #[.slice A n c, .int .i64 k] w fun e w' => e = .returned (.int .i64 (ZLi k ds)) ∧ Got (ZQ ZLV) base [.slice A n c] (ZLw k ds) L w' ∧ ZLq L w w' := by
  have H := Lib.hid h
  have HN := Lib.hid hn
  have HK := Lib.hid hk1
  clear h hn hk1
  go_enter Tryz.func36, Tryz.ntmps36
  go_wp2
  go_loopw [1, 5] (fun q j wr => ∃ (i : Nat) (kk : Int) (D : List ZLS), i ≤ n ∧ j = .int .i64 i ∧ q = .int .i64 kk ∧ 1 ≤ kk ∧ Hid (ZLi kk (ds.drop i) = ZLi k ds ∧ D.length = i ∧ D ++ ZLw kk (ds.drop i) = ZLw k ds) ∧ Hid (Got (ZQ ZLV) base [.slice A n c] (D ++ ds.drop i) L wr) ∧ Hid (ZLq L w wr)) (fun _ j _ => n - (intOf j).toNat)
  case atStart => exact ⟨0, k, [], Nat.zero_le _, rfl, rfl, hk0, ⟨rfl, rfl, rfl⟩, H.out, ZLq.refl _ _⟩
  case round =>
    obtain ⟨i, kk, D, hi, rfl, rfl, h1, HD, HG, HO⟩ := hrel
    by_cases hlt : i < n
    · have hil : i < ds.length := by have := HN.out; omega
      obtain ⟨hkk, hDl, hDm⟩ := HD.out
      have hcl : i < (D ++ ds.drop i).length := by simp; omega
      obtain ⟨b, off, cs, Lk, rfl, hbL, hLk, hown, hrep, hcells, hput⟩ := HG.out.focus hcl
      have hnext : Hid (ds.drop i = ds[i] :: ds.drop (i + 1)) := List.drop_eq_getElem_cons _
      have hxi : (D ++ ds.drop i)[i] = ds[i] := by
        rw [List.getElem_append_right (by omega)]; simp [hDl]
      rw [hxi] at hrep
      clear hxi
      generalize ds[i] = x at hrep hnext
      have hnb : Hid (ZLs kk x ≤ 4611686018427387904) := by
        have := ZMi (ZLs kk x) (ds.drop (i + 1))
        rw [hnext.out] at hkk
        have hk := HK.out
        rw [← hkk] at hk
        exact Int.le_trans this hk
      have hnb1 := hnb.out
      have hnb2 := ZMS kk x
      unfold ZLs at hnb1 hnb2
      have HDn : Hid (ZLi (ZLs kk x) (ds.drop (i + 1)) = ZLi k ds ∧ (D ++ [ZMx kk x]).length = i + 1 ∧ (D ++ [ZMx kk x]) ++ ZLw (ZLs kk x) (ds.drop (i + 1)) = ZLw k ds) := by
        refine ⟨by rw [← hkk, hnext.out]; rfl, by simp [hDl], ?_⟩
        rw [← hDm, hnext.out]; simp [ZLw]
      have hset : Hid ((D ++ ds.drop i).set i (ZMx kk x) = (D ++ [ZMx kk x]) ++ ds.drop (i + 1)) := by
        rw [Hid, List.set_append_right _ _ (by omega), show i - D.length = 0 by omega, hnext.out, List.set_cons_zero]; simp
      obtain ⟨A1, c1, L1, rfl, hLL, t0, n1, m1, s1⟩ := hrep
      unfold maxLen at m1
      subst Lk
      have HEl := Lib.hid (ZMk.start (m := 2) hcells rfl hown)
      have hbn := Lib.hid hown.head
      have G1 : Hid (Got (ZQ Zj7) base [.slice A1 x.times.length c1] x.times L1 wr) := ⟨⟨A1, c1, rfl, n1, (by unfold maxLen; omega), s1⟩, hown.tail⟩
      have bn1 : Hid (b ∉ L1) := fun m => hown.head (by simp [m])
      have sb1 : Hid (∀ y ∈ L1, y ∈ L1) := fun y m => by simp [m]
      clear s1
      have HPut := Lib.hid hput
      have HOwn := Lib.hid hown
      have HLk := Lib.hid hLk
      clear hput hown hLk hcells hkk hDl hDm
      simp only [show ZLV.size = 2 from rfl] at HEl HPut
      have q0 := HEl.out.at (j := 0) rfl
      have z0 := HEl.out.frozen (off + i * 2)
      have q1 := HEl.out.at (j := 1) rfl
      have z1 := HEl.out.frozen (off + i * 2 + 1)
      simp only [Nat.add_zero] at q0
      have gm0 : (0 : Int) ≤ 0 := by omega
      have mono_x_times := ZMp (kk + 1) x.times
      go_wp2_with fail
      refine (ZLf _ _ (by omega) (by omega)).mono ?_
      rintro e w1 ⟨rfl, hb1⟩
      have HEl := Lib.hid (HEl.out.later hb1)
      have G1 := Lib.hid (G1.out.later hb1)
      clear hb1
      clear q0 z0 q1 z1
      have q0 := HEl.out.at (j := 0) rfl
      have z0 := HEl.out.frozen (off + i * 2)
      have q1 := HEl.out.at (j := 1) rfl
      have z1 := HEl.out.frozen (off + i * 2 + 1)
      simp only [Nat.add_zero] at q0
      go_wp2_with fail
      have G1 := Lib.hid (G1.out.setFar (p := ⟨b, off + i * 2 + 0, none⟩) bn1.out (.string (mTx (kk))))
      refine (ZNH A1 _ c1 x.times L1 base _ _ rfl (by omega) (by omega) G1.out).mono ?_
      rintro e w2 ⟨rfl, g2, on2⟩
      have HEl := Lib.hid ((HEl.out.set 0 (by omega) (.string (mTx (kk)))).marked on2 sb1.out bn1.out)
      have G1 := Lib.hid g2
      clear g2 on2
      clear q0 z0 q1 z1
      have q0 := HEl.out.at (j := 0) rfl
      have z0 := HEl.out.frozen (off + i * 2)
      have q1 := HEl.out.at (j := 1) rfl
      have z1 := HEl.out.frozen (off + i * 2 + 1)
      simp only [Nat.add_zero] at q0
      obtain ⟨nn1, mm1, ss1⟩ := ZeR G1.out.rep
      have hO2 := Lib.hid (ZLD HOwn.out HEl.out.plain HEl.out.only (fun y m => by (try simp only [List.mem_append] at m) <;> (exact G1.out.own.plain y m)))
      have HGn := Lib.hid (HPut.out _ _ (ZMx kk x) HEl.out.only HEl.out.cells HEl.out.rest ⟨A1, c1, L1, by simp [ZMx, ZMu], rfl, ZLW _ (by omega), nn1, mm1, ss1⟩ hO2.out)
      have HOn := Lib.hid (HO.out.trans (HEl.out.only.mono (fun y m => by rcases List.mem_cons.1 m with rfl | m; exact hbL; exact HLk.out y m)))
      rw [hset.out] at HGn
      try simp only [Nat.add_zero] at HGn HOn
      clear HEl hO2 HPut G1 nn1 mm1 ss1
      go_wp2_with fail
      go_roundw
      case rel => exact ⟨i + 1, ZLs kk x, _, by omega, by go_num, rfl, by unfold ZLs; omega, HDn, HGn, HOn⟩
      case measure => simp [intOf]; omega
    · obtain rfl : i = n := by omega
      have e : Hid (ds.drop i = []) := List.drop_of_length_le (by have := HN.out; omega)
      have hf : Hid (ZLi k ds = kk ∧ D = ZLw k ds) := by
        obtain ⟨h1, h2, h3⟩ := HD.out
        rw [e.out] at h3 h1
        simp [ZLw] at h3
        exact ⟨h1.symm, h3⟩
      rw [e.out, List.append_nil] at HG
      go_wp2
      go_ret
      exact ⟨ZL2 hf.out.1.symm, by rw [← hf.out.2]; exact HG.out, HO.out⟩

set_option maxRecDepth 100000 in
set_option maxHeartbeats 4000000 in
theorem ZOu (A : Option Addr) (n c : Nat) (ds : List ZL6) (L : List Nat) (base : Nat) (k : Int) (w : World) (hn : n = ds.length) (hm : n ≤ 9223372036854775807) (hk0 : 1 ≤ k) (hk1 : ZLv k ds ≤ 4611686018427387904) (h : Got (ZQ ZL9) base [.slice A n c] ds L w) :
    Calls Tryz.prog 37 #[.slice A n c, .int .i64 k] w fun e w' => e = .returned (.int .i64 (ZLv k ds)) ∧ Got (ZQ ZL9) base [.slice A n c] (ZLG k ds) L w' ∧ ZLq L w w' := by
  have H := Lib.hid h
  have HN := Lib.hid hn
  have HK := Lib.hid hk1
  clear h hn hk1
  go_enter Tryz.func37, Tryz.ntmps37
  go_wp2
  go_loopw [1, 5] (fun q j wr => ∃ (i : Nat) (kk : Int) (D : List ZL6), i ≤ n ∧ j = .int .i64 i ∧ q = .int .i64 kk ∧ 1 ≤ kk ∧ Hid (ZLv kk (ds.drop i) = ZLv k ds ∧ D.length = i ∧ D ++ ZLG kk (ds.drop i) = ZLG k ds) ∧ Hid (Got (ZQ ZL9) base [.slice A n c] (D ++ ds.drop i) L wr) ∧ Hid (ZLq L w wr)) (fun _ j _ => n - (intOf j).toNat)
  case atStart => exact ⟨0, k, [], Nat.zero_le _, rfl, rfl, hk0, ⟨rfl, rfl, rfl⟩, H.out, ZLq.refl _ _⟩
  case round =>
    obtain ⟨i, kk, D, hi, rfl, rfl, h1, HD, HG, HO⟩ := hrel
    by_cases hlt : i < n
    · have hil : i < ds.length := by have := HN.out; omega
      obtain ⟨hkk, hDl, hDm⟩ := HD.out
      have hcl : i < (D ++ ds.drop i).length := by simp; omega
      obtain ⟨b, off, cs, Lk, rfl, hbL, hLk, hown, hrep, hcells, hput⟩ := HG.out.focus hcl
      have hnext : Hid (ds.drop i = ds[i] :: ds.drop (i + 1)) := List.drop_eq_getElem_cons _
      have hxi : (D ++ ds.drop i)[i] = ds[i] := by
        rw [List.getElem_append_right (by omega)]; simp [hDl]
      rw [hxi] at hrep
      clear hxi
      generalize ds[i] = x at hrep hnext
      have hnb : Hid (ZLF kk x ≤ 4611686018427387904) := by
        have := ZMn (ZLF kk x) (ds.drop (i + 1))
        rw [hnext.out] at hkk
        have hk := HK.out
        rw [← hkk] at hk
        exact Int.le_trans this hk
      have hnb1 := hnb.out
      have hnb2 := ZM2 kk x
      unfold ZLF at hnb1 hnb2
      have HDn : Hid (ZLv (ZLF kk x) (ds.drop (i + 1)) = ZLv k ds ∧ (D ++ [ZMJ kk x]).length = i + 1 ∧ (D ++ [ZMJ kk x]) ++ ZLG (ZLF kk x) (ds.drop (i + 1)) = ZLG k ds) := by
        refine ⟨by rw [← hkk, hnext.out]; rfl, by simp [hDl], ?_⟩
        rw [← hDm, hnext.out]; simp [ZLG]
      have hset : Hid ((D ++ ds.drop i).set i (ZMJ kk x) = (D ++ [ZMJ kk x]) ++ ds.drop (i + 1)) := by
        rw [Hid, List.set_append_right _ _ (by omega), show i - D.length = 0 by omega, hnext.out, List.set_cons_zero]; simp
      obtain ⟨A1, c1, L1, rfl, hLL, t0, t1, n1, m1, s1⟩ := hrep
      unfold maxLen at m1
      subst Lk
      have HEl := Lib.hid (ZMk.start (m := 4) hcells rfl hown)
      have hbn := Lib.hid hown.head
      have G1 : Hid (Got (ZQ ZsX) base [.slice A1 x.fact.args.length c1] x.fact.args L1 wr) := ⟨⟨A1, c1, rfl, n1, (by unfold maxLen; omega), s1⟩, hown.tail⟩
      have bn1 : Hid (b ∉ L1) := fun m => hown.head (by simp [m])
      have sb1 : Hid (∀ y ∈ L1, y ∈ L1) := fun y m => by simp [m]
      clear s1
      have HPut := Lib.hid hput
      have HOwn := Lib.hid hown
      have HLk := Lib.hid hLk
      clear hput hown hLk hcells hkk hDl hDm
      simp only [show ZL9.size = 4 from rfl] at HEl HPut
      have q0 := HEl.out.at (j := 0) rfl
      have z0 := HEl.out.frozen (off + i * 4)
      have q1 := HEl.out.at (j := 1) rfl
      have z1 := HEl.out.frozen (off + i * 4 + 1)
      have q2 := HEl.out.at (j := 2) rfl
      have z2 := HEl.out.frozen (off + i * 4 + 2)
      have q3 := HEl.out.at (j := 3) rfl
      have z3 := HEl.out.frozen (off + i * 4 + 3)
      simp only [Nat.add_zero] at q0
      have gm0 : (0 : Int) ≤ 0 := by omega
      have mono_x_fact_args := ZLj (kk + 1 + 1 + 1) x.fact.args
      go_wp2_with fail
      refine (ZLf _ _ (by omega) (by omega)).mono ?_
      rintro e w1 ⟨rfl, hb1⟩
      have HEl := Lib.hid ((HEl.out.set 0 (by omega) (.int .i64 (kk))).later hb1)
      have G1 := Lib.hid ((G1.out.setFar (p := ⟨b, off + i * 4 + 0, none⟩) bn1.out (.int .i64 (kk))).later hb1)
      clear hb1
      clear q0 z0 q1 z1 q2 z2 q3 z3
      have q0 := HEl.out.at (j := 0) rfl
      have z0 := HEl.out.frozen (off + i * 4)
      have q1 := HEl.out.at (j := 1) rfl
      have z1 := HEl.out.frozen (off + i * 4 + 1)
      have q2 := HEl.out.at (j := 2) rfl
      have z2 := HEl.out.frozen (off + i * 4 + 2)
      have q3 := HEl.out.at (j := 3) rfl
      have z3 := HEl.out.frozen (off + i * 4 + 3)
      simp only [Nat.add_zero] at q0
      go_wp2_with fail
      refine (ZLf _ _ (by omega) (by omega)).mono ?_
      rintro e w2 ⟨rfl, hb2⟩
      have HEl := Lib.hid ((HEl.out.set 1 (by omega) (.string (mTx (kk + 1)))).later hb2)
      have G1 := Lib.hid ((G1.out.setFar (p := ⟨b, off + i * 4 + 1, none⟩) bn1.out (.string (mTx (kk + 1)))).later hb2)
      clear hb2
      clear q0 z0 q1 z1 q2 z2 q3 z3
      have q0 := HEl.out.at (j := 0) rfl
      have z0 := HEl.out.frozen (off + i * 4)
      have q1 := HEl.out.at (j := 1) rfl
      have z1 := HEl.out.frozen (off + i * 4 + 1)
      have q2 := HEl.out.at (j := 2) rfl
      have z2 := HEl.out.frozen (off + i * 4 + 2)
      have q3 := HEl.out.at (j := 3) rfl
      have z3 := HEl.out.frozen (off + i * 4 + 3)
      simp only [Nat.add_zero] at q0
      go_wp2_with fail
      have G1 := Lib.hid (G1.out.setFar (p := ⟨b, off + i * 4 + 2, none⟩) bn1.out (.string (mTx (kk + 1 + 1))))
      refine (ZLX A1 _ c1 x.fact.args L1 base _ _ rfl (by omega) (by omega) G1.out).mono ?_
      rintro e w3 ⟨rfl, g3, on3⟩
      have HEl := Lib.hid ((HEl.out.set 2 (by omega) (.string (mTx (kk + 1 + 1)))).marked on3 sb1.out bn1.out)
      have G1 := Lib.hid g3
      clear g3 on3
      clear q0 z0 q1 z1 q2 z2 q3 z3
      have q0 := HEl.out.at (j := 0) rfl
      have z0 := HEl.out.frozen (off + i * 4)
      have q1 := HEl.out.at (j := 1) rfl
      have z1 := HEl.out.frozen (off + i * 4 + 1)
      have q2 := HEl.out.at (j := 2) rfl
      have z2 := HEl.out.frozen (off + i * 4 + 2)
      have q3 := HEl.out.at (j := 3) rfl
      have z3 := HEl.out.frozen (off + i * 4 + 3)
      simp only [Nat.add_zero] at q0
      obtain ⟨nn1, mm1, ss1⟩ := ZeR G1.out.rep
      have hO2 := Lib.hid (ZLD HOwn.out HEl.out.plain HEl.out.only (fun y m => by (try simp only [List.mem_append] at m) <;> (exact G1.out.own.plain y m)))
      have HGn := Lib.hid (HPut.out _ _ (ZMJ kk x) HEl.out.only HEl.out.cells HEl.out.rest ⟨A1, c1, L1, by simp [ZMJ, ZLt], rfl, ZLW _ (by omega), ZLW _ (by omega), nn1, mm1, ss1⟩ hO2.out)
      have HOn := Lib.hid (HO.out.trans (HEl.out.only.mono (fun y m => by rcases List.mem_cons.1 m with rfl | m; exact hbL; exact HLk.out y m)))
      rw [hset.out] at HGn
      try simp only [Nat.add_zero] at HGn HOn
      clear HEl hO2 HPut G1 nn1 mm1 ss1
      go_wp2_with fail
      go_roundw
      case rel => exact ⟨i + 1, ZLF kk x, _, by omega, by go_num, rfl, by unfold ZLF; omega, HDn, HGn, HOn⟩
      case measure => simp [intOf]; omega
    · obtain rfl : i = n := by omega
      have e : Hid (ds.drop i = []) := List.drop_of_length_le (by have := HN.out; omega)
      have hf : Hid (ZLv k ds = kk ∧ D = ZLG k ds) := by
        obtain ⟨h1, h2, h3⟩ := HD.out
        rw [e.out] at h3 h1
        simp [ZLG] at h3
        exact ⟨h1.symm, h3⟩
      rw [e.out, List.append_nil] at HG
      go_wp2
      go_ret
      exact ⟨ZL2 hf.out.1.symm, by rw [← hf.out.2]; exact HG.out, HO.out⟩

def ZNW (k : Int) (x : ZMj) : ZMj := ⟨ZLy (k) x.rules, ZLH (ZLc (k) x.rules) x.memory, x.clock, ZLw (ZLd (ZLc (k) x.rules) x.memory) x.fired, x.halted, ZLG (ZLi (ZLd (ZLc (k) x.rules) x.memory) x.fired) x.log⟩
def ZLh (k : Int) (x : ZMj) : Int := ZLv (ZLi (ZLd (ZLc (k) x.rules) x.memory) x.fired) x.log
theorem ZMG (k : Int) (x : ZMj) : k ≤ ZLh k x := by
  unfold ZLh
  have := ZMa (k) x.rules
  have := ZMl (ZLc (k) x.rules) x.memory
  have := ZMi (ZLd (ZLc (k) x.rules) x.memory) x.fired
  have := ZMn (ZLi (ZLd (ZLc (k) x.rules) x.memory) x.fired) x.log
  omega
theorem ZOv (k : Int) (x : ZMj) : ZLh k x ≤ k + 16 * ZNB x := by
  unfold ZLh
  have := ZNN (k) x.rules
  have := ZOT (ZLc (k) x.rules) x.memory
  have := ZOn (ZLd (ZLc (k) x.rules) x.memory) x.fired
  have := ZOJ (ZLi (ZLd (ZLc (k) x.rules) x.memory) x.fired) x.log
  simp only [ZNB]
  omega
set_option maxHeartbeats 1600000 in
theorem ZOF (x : ZMj) (A1 : Option Addr) (c1 : Nat) (L1 : List Nat) (A2 : Option Addr) (c2 : Nat) (L2 : List Nat) (A3 : Option Addr) (c3 : Nat) (L3 : List Nat) (A4 : Option Addr) (c4 : Nat) (L4 : List Nat) (base : Nat) (k : Int) (w : World) (hk0 : 1 ≤ k) (hk1 : ZLh k x ≤ 4611686018427387904) (l1 : x.rules.length ≤ 9223372036854775807) (l2 : x.memory.length ≤ 9223372036854775807) (l3 : x.fired.length ≤ 9223372036854775807) (l4 : x.log.length ≤ 9223372036854775807) (g1 : Got (ZQ Zby) base [.slice A1 x.rules.length c1] (x.rules) L1 w) (g2 : Got (ZQ ZL8) base [.slice A2 x.memory.length c2] (x.memory) L2 w) (g3 : Got (ZQ ZLV) base [.slice A3 x.fired.length c3] (x.fired) L3 w) (g4 : Got (ZQ ZL9) base [.slice A4 x.log.length c4] (x.log) L4 w) (p1_2 : ∀ y ∈ L1, y ∉ L2) (p1_3 : ∀ y ∈ L1, y ∉ L3) (p1_4 : ∀ y ∈ L1, y ∉ L4) (p2_3 : ∀ y ∈ L2, y ∉ L3) (p2_4 : ∀ y ∈ L2, y ∉ L4) (p3_4 : ∀ y ∈ L3, y ∉ L4) :
    Calls Tryz.prog 15 #[.agg #[.slice A1 x.rules.length c1, .slice A2 x.memory.length c2, .int .i64 x.clock, .slice A3 x.fired.length c3, .bool x.halted, .slice A4 x.log.length c4], .int .i64 k] w fun e w' => e = .returned (.int .i64 (ZLh k x)) ∧ Got (ZQ Zby) base [.slice A1 x.rules.length c1] (ZLy (k) x.rules) L1 w' ∧ Got (ZQ ZL8) base [.slice A2 x.memory.length c2] (ZLH (ZLc (k) x.rules) x.memory) L2 w' ∧ Got (ZQ ZLV) base [.slice A3 x.fired.length c3] (ZLw (ZLd (ZLc (k) x.rules) x.memory) x.fired) L3 w' ∧ Got (ZQ ZL9) base [.slice A4 x.log.length c4] (ZLG (ZLi (ZLd (ZLc (k) x.rules) x.memory) x.fired) x.log) L4 w' ∧ ZLq (L1 ++ (L2 ++ (L3 ++ L4))) w w' := by
  have bn1 : Hid (w.heap.size ∉ L1) := fun m => Nat.lt_irrefl _ (g1.lt _ m)
  have bn2 : Hid (w.heap.size ∉ L2) := fun m => Nat.lt_irrefl _ (g2.lt _ m)
  have bn3 : Hid (w.heap.size ∉ L3) := fun m => Nat.lt_irrefl _ (g3.lt _ m)
  have bn4 : Hid (w.heap.size ∉ L4) := fun m => Nat.lt_irrefl _ (g4.lt _ m)
  have G1 := Lib.hid (g1.alloc (.cells #[.slice A1 x.rules.length c1, .slice A2 x.memory.length c2, .int .i64 x.clock, .slice A3 x.fired.length c3, .bool x.halted, .slice A4 x.log.length c4] 27))
  have G2 := Lib.hid (g2.alloc (.cells #[.slice A1 x.rules.length c1, .slice A2 x.memory.length c2, .int .i64 x.clock, .slice A3 x.fired.length c3, .bool x.halted, .slice A4 x.log.length c4] 27))
  have G3 := Lib.hid (g3.alloc (.cells #[.slice A1 x.rules.length c1, .slice A2 x.memory.length c2, .int .i64 x.clock, .slice A3 x.fired.length c3, .bool x.halted, .slice A4 x.log.length c4] 27))
  have G4 := Lib.hid (g4.alloc (.cells #[.slice A1 x.rules.length c1, .slice A2 x.memory.length c2, .int .i64 x.clock, .slice A3 x.fired.length c3, .bool x.halted, .slice A4 x.log.length c4] 27))
  have ap1_2 := Lib.hid p1_2
  have ap2_1 : Hid (∀ y ∈ L2, y ∉ L1) := fun y m m' => p1_2 y m' m
  have ap1_3 := Lib.hid p1_3
  have ap3_1 : Hid (∀ y ∈ L3, y ∉ L1) := fun y m m' => p1_3 y m' m
  have ap1_4 := Lib.hid p1_4
  have ap4_1 : Hid (∀ y ∈ L4, y ∉ L1) := fun y m m' => p1_4 y m' m
  have ap2_3 := Lib.hid p2_3
  have ap3_2 : Hid (∀ y ∈ L3, y ∉ L2) := fun y m m' => p2_3 y m' m
  have ap2_4 := Lib.hid p2_4
  have ap4_2 : Hid (∀ y ∈ L4, y ∉ L2) := fun y m m' => p2_4 y m' m
  have ap3_4 := Lib.hid p3_4
  have ap4_3 : Hid (∀ y ∈ L4, y ∉ L3) := fun y m m' => p3_4 y m' m
  have K0 : Hid (Blk (w.alloc (.cells #[.slice A1 x.rules.length c1, .slice A2 x.memory.length c2, .int .i64 x.clock, .slice A3 x.fired.length c3, .bool x.halted, .slice A4 x.log.length c4] 27)) w.heap.size 27 #[.slice A1 x.rules.length c1, .slice A2 x.memory.length c2, .int .i64 x.clock, .slice A3 x.fired.length c3, .bool x.halted, .slice A4 x.log.length c4]) := Blk.new _ _ _
  have O0 : Hid (ZLq (L1 ++ (L2 ++ (L3 ++ L4))) w (w.alloc (.cells #[.slice A1 x.rules.length c1, .slice A2 x.memory.length c2, .int .i64 x.clock, .slice A3 x.fired.length c3, .bool x.halted, .slice A4 x.log.length c4] 27))) := ZLq.of_below ((Below.refl _ _).alloc (Nat.le_refl _) _) _
  clear g1 g2 g3 g4 p1_2 p1_3 p1_4 p2_3 p2_4 p3_4
  unfold ZLh at hk1
  have := ZMa (k) x.rules
  have := ZMl (ZLc (k) x.rules) x.memory
  have := ZMi (ZLd (ZLc (k) x.rules) x.memory) x.fired
  have := ZMn (ZLi (ZLd (ZLc (k) x.rules) x.memory) x.fired) x.log
  go_enter Tryz.func15, Tryz.ntmps15
  go_wp2_with fail
  refine (ZNt A1 _ c1 x.rules L1 base _ _ rfl (by omega) (by omega) (by omega) G1.out).mono ?_
  rintro e w1 ⟨rfl, h1, on1⟩
  have G1 := Lib.hid h1
  have G2 := Lib.hid (G2.out.only on1 ap2_1.out)
  have G3 := Lib.hid (G3.out.only on1 ap3_1.out)
  have G4 := Lib.hid (G4.out.only on1 ap4_1.out)
  have K1 := Lib.hid (ZMc K0.out on1 bn1.out)
  have f0 := K1.out.at (i := 0) rfl
  have f1 := K1.out.at (i := 1) rfl
  have f2 := K1.out.at (i := 2) rfl
  have f3 := K1.out.at (i := 3) rfl
  have f4 := K1.out.at (i := 4) rfl
  have f5 := K1.out.at (i := 5) rfl
  have O1 : Hid (ZLq (L1 ++ (L2 ++ (L3 ++ L4))) w w1) := O0.out.trans (on1.mono (fun y m => by first | exact m | (simp [m]; done) | (simp only [List.mem_append] at m ⊢; (repeat' (refine Or.elim m (fun m => ?_) (fun m => ?_))) <;> simp [m])))
  clear on1 h1
  go_wp2_with fail
  refine (ZOt A2 _ c2 x.memory L2 base _ _ rfl (by omega) (by omega) (by omega) G2.out).mono ?_
  rintro e w2 ⟨rfl, h2, on2⟩
  have G1 := Lib.hid (G1.out.only on2 ap1_2.out)
  have G2 := Lib.hid h2
  have G3 := Lib.hid (G3.out.only on2 ap3_2.out)
  have G4 := Lib.hid (G4.out.only on2 ap4_2.out)
  have K2 := Lib.hid (ZMc K1.out on2 bn2.out)
  clear f0 f1 f2 f3 f4 f5
  have f0 := K2.out.at (i := 0) rfl
  have f1 := K2.out.at (i := 1) rfl
  have f2 := K2.out.at (i := 2) rfl
  have f3 := K2.out.at (i := 3) rfl
  have f4 := K2.out.at (i := 4) rfl
  have f5 := K2.out.at (i := 5) rfl
  have O2 : Hid (ZLq (L1 ++ (L2 ++ (L3 ++ L4))) w w2) := O1.out.trans (on2.mono (fun y m => by first | exact m | (simp [m]; done) | (simp only [List.mem_append] at m ⊢; (repeat' (refine Or.elim m (fun m => ?_) (fun m => ?_))) <;> simp [m])))
  clear on2 h2
  go_wp2_with fail
  refine (ZOe A3 _ c3 x.fired L3 base _ _ rfl (by omega) (by omega) (by omega) G3.out).mono ?_
  rintro e w3 ⟨rfl, h3, on3⟩
  have G1 := Lib.hid (G1.out.only on3 ap1_3.out)
  have G2 := Lib.hid (G2.out.only on3 ap2_3.out)
  have G3 := Lib.hid h3
  have G4 := Lib.hid (G4.out.only on3 ap4_3.out)
  have K3 := Lib.hid (ZMc K2.out on3 bn3.out)
  clear f0 f1 f2 f3 f4 f5
  have f0 := K3.out.at (i := 0) rfl
  have f1 := K3.out.at (i := 1) rfl
  have f2 := K3.out.at (i := 2) rfl
  have f3 := K3.out.at (i := 3) rfl
  have f4 := K3.out.at (i := 4) rfl
  have f5 := K3.out.at (i := 5) rfl
  have O3 : Hid (ZLq (L1 ++ (L2 ++ (L3 ++ L4))) w w3) := O2.out.trans (on3.mono (fun y m => by first | exact m | (simp [m]; done) | (simp only [List.mem_append] at m ⊢; (repeat' (refine Or.elim m (fun m => ?_) (fun m => ?_))) <;> simp [m])))
  clear on3 h3
  go_wp2_with fail
  refine (ZOu A4 _ c4 x.log L4 base _ _ rfl (by omega) (by omega) (by omega) G4.out).mono ?_
  rintro e w4 ⟨rfl, h4, on4⟩
  have G1 := Lib.hid (G1.out.only on4 ap1_4.out)
  have G2 := Lib.hid (G2.out.only on4 ap2_4.out)
  have G3 := Lib.hid (G3.out.only on4 ap3_4.out)
  have G4 := Lib.hid h4
  have K4 := Lib.hid (ZMc K3.out on4 bn4.out)
  clear f0 f1 f2 f3 f4 f5
  have f0 := K4.out.at (i := 0) rfl
  have f1 := K4.out.at (i := 1) rfl
  have f2 := K4.out.at (i := 2) rfl
  have f3 := K4.out.at (i := 3) rfl
  have f4 := K4.out.at (i := 4) rfl
  have f5 := K4.out.at (i := 5) rfl
  have O4 : Hid (ZLq (L1 ++ (L2 ++ (L3 ++ L4))) w w4) := O3.out.trans (on4.mono (fun y m => by first | exact m | (simp [m]; done) | (simp only [List.mem_append] at m ⊢; (repeat' (refine Or.elim m (fun m => ?_) (fun m => ?_))) <;> simp [m])))
  clear on4 h4
  go_wp2_with fail
  go_ret
  exact ⟨ZL2 rfl, G1.out, G2.out, G3.out, G4.out, O4.out⟩
def ZOh (k : Int) (x : ZMq) : ZMq := ⟨ZNW (k) x.engine, ZNE (ZLh (k) x.engine) x.network⟩
def ZLC (k : Int) (x : ZMq) : Int := ZLQ (ZLh (k) x.engine) x.network
theorem ZPi (k : Int) (x : ZMq) : k ≤ ZLC k x := by
  unfold ZLC
  have := ZMG (k) x.engine
  have := ZMz (ZLh (k) x.engine) x.network
  omega
theorem ZPh (k : Int) (x : ZMq) : ZLC k x ≤ k + 16 * ZOk x := by
  unfold ZLC
  have := ZOv (k) x.engine
  have := ZOd (ZLh (k) x.engine) x.network
  simp only [ZOk]
  omega
set_option maxHeartbeats 1600000 in
theorem ZPt (x : ZMq) (A1 : Option Addr) (c1 : Nat) (L1 : List Nat) (A2 : Option Addr) (c2 : Nat) (L2 : List Nat) (A3 : Option Addr) (c3 : Nat) (L3 : List Nat) (A4 : Option Addr) (c4 : Nat) (L4 : List Nat) (A5 : Option Addr) (c5 : Nat) (L5 : List Nat) (A6 : Option Addr) (c6 : Nat) (L6 : List Nat) (A7 : Option Addr) (c7 : Nat) (L7 : List Nat) (A8 : Option Addr) (c8 : Nat) (L8 : List Nat) (A9 : Option Addr) (c9 : Nat) (L9 : List Nat) (base : Nat) (k : Int) (w : World) (hk0 : 1 ≤ k) (hk1 : ZLC k x ≤ 4611686018427387904) (l1 : x.engine.rules.length ≤ 9223372036854775807) (l2 : x.engine.memory.length ≤ 9223372036854775807) (l3 : x.engine.fired.length ≤ 9223372036854775807) (l4 : x.engine.log.length ≤ 9223372036854775807) (l5 : x.network.rules.length ≤ 9223372036854775807) (l6 : x.network.ends.length ≤ 9223372036854775807) (l7 : x.network.alphas.length ≤ 9223372036854775807) (l8 : x.network.nodes.length ≤ 9223372036854775807) (l9 : x.network.facts.length ≤ 9223372036854775807) (g1 : Got (ZQ Zby) base [.slice A1 x.engine.rules.length c1] (x.engine.rules) L1 w) (g2 : Got (ZQ ZL8) base [.slice A2 x.engine.memory.length c2] (x.engine.memory) L2 w) (g3 : Got (ZQ ZLV) base [.slice A3 x.engine.fired.length c3] (x.engine.fired) L3 w) (g4 : Got (ZQ ZL9) base [.slice A4 x.engine.log.length c4] (x.engine.log) L4 w) (g5 : Got (ZQ Zby) base [.slice A5 x.network.rules.length c5] (x.network.rules) L5 w) (g6 : Got (ZQ Zj7) base [.slice A6 x.network.ends.length c6] (x.network.ends) L6 w) (g7 : Got (ZQ ZL7) base [.slice A7 x.network.alphas.length c7] (x.network.alphas) L7 w) (g8 : Got (ZQ ZMg) base [.slice A8 x.network.nodes.length c8] (x.network.nodes) L8 w) (g9 : Got (ZQ Yf) base [.slice A9 x.network.facts.length c9] (x.network.facts) L9 w) (p1_2 : ∀ y ∈ L1, y ∉ L2) (p1_3 : ∀ y ∈ L1, y ∉ L3) (p1_4 : ∀ y ∈ L1, y ∉ L4) (p1_5 : ∀ y ∈ L1, y ∉ L5) (p1_6 : ∀ y ∈ L1, y ∉ L6) (p1_7 : ∀ y ∈ L1, y ∉ L7) (p1_8 : ∀ y ∈ L1, y ∉ L8) (p1_9 : ∀ y ∈ L1, y ∉ L9) (p2_3 : ∀ y ∈ L2, y ∉ L3) (p2_4 : ∀ y ∈ L2, y ∉ L4) (p2_5 : ∀ y ∈ L2, y ∉ L5) (p2_6 : ∀ y ∈ L2, y ∉ L6) (p2_7 : ∀ y ∈ L2, y ∉ L7) (p2_8 : ∀ y ∈ L2, y ∉ L8) (p2_9 : ∀ y ∈ L2, y ∉ L9) (p3_4 : ∀ y ∈ L3, y ∉ L4) (p3_5 : ∀ y ∈ L3, y ∉ L5) (p3_6 : ∀ y ∈ L3, y ∉ L6) (p3_7 : ∀ y ∈ L3, y ∉ L7) (p3_8 : ∀ y ∈ L3, y ∉ L8) (p3_9 : ∀ y ∈ L3, y ∉ L9) (p4_5 : ∀ y ∈ L4, y ∉ L5) (p4_6 : ∀ y ∈ L4, y ∉ L6) (p4_7 : ∀ y ∈ L4, y ∉ L7) (p4_8 : ∀ y ∈ L4, y ∉ L8) (p4_9 : ∀ y ∈ L4, y ∉ L9) (p5_6 : ∀ y ∈ L5, y ∉ L6) (p5_7 : ∀ y ∈ L5, y ∉ L7) (p5_8 : ∀ y ∈ L5, y ∉ L8) (p5_9 : ∀ y ∈ L5, y ∉ L9) (p6_7 : ∀ y ∈ L6, y ∉ L7) (p6_8 : ∀ y ∈ L6, y ∉ L8) (p6_9 : ∀ y ∈ L6, y ∉ L9) (p7_8 : ∀ y ∈ L7, y ∉ L8) (p7_9 : ∀ y ∈ L7, y ∉ L9) (p8_9 : ∀ y ∈ L8, y ∉ L9) :
    Calls Tryz.prog 7 #[.agg #[.slice A1 x.engine.rules.length c1, .slice A2 x.engine.memory.length c2, .int .i64 x.engine.clock, .slice A3 x.engine.fired.length c3, .bool x.engine.halted, .slice A4 x.engine.log.length c4, .slice A5 x.network.rules.length c5, .slice A6 x.network.ends.length c6, .slice A7 x.network.alphas.length c7, .slice A8 x.network.nodes.length c8, .slice A9 x.network.facts.length c9, .int .i64 x.network.tries], .int .i64 k] w fun e w' => e = .returned (.int .i64 (ZLC k x)) ∧ Got (ZQ Zby) base [.slice A1 x.engine.rules.length c1] (ZLy (k) x.engine.rules) L1 w' ∧ Got (ZQ ZL8) base [.slice A2 x.engine.memory.length c2] (ZLH (ZLc (k) x.engine.rules) x.engine.memory) L2 w' ∧ Got (ZQ ZLV) base [.slice A3 x.engine.fired.length c3] (ZLw (ZLd (ZLc (k) x.engine.rules) x.engine.memory) x.engine.fired) L3 w' ∧ Got (ZQ ZL9) base [.slice A4 x.engine.log.length c4] (ZLG (ZLi (ZLd (ZLc (k) x.engine.rules) x.engine.memory) x.engine.fired) x.engine.log) L4 w' ∧ Got (ZQ Zby) base [.slice A5 x.network.rules.length c5] (ZLy (ZLh (k) x.engine) x.network.rules) L5 w' ∧ Got (ZQ Zj7) base [.slice A6 x.network.ends.length c6] (ZLY (ZLc (ZLh (k) x.engine) x.network.rules) x.network.ends) L6 w' ∧ Got (ZQ ZL7) base [.slice A7 x.network.alphas.length c7] (ZLI (ZLg (ZLc (ZLh (k) x.engine) x.network.rules) x.network.ends) x.network.alphas) L7 w' ∧ Got (ZQ ZMg) base [.slice A8 x.network.nodes.length c8] (ZLR (ZLe (ZLg (ZLc (ZLh (k) x.engine) x.network.rules) x.network.ends) x.network.alphas) x.network.nodes) L8 w' ∧ Got (ZQ Yf) base [.slice A9 x.network.facts.length c9] (ZLK (ZLk (ZLe (ZLg (ZLc (ZLh (k) x.engine) x.network.rules) x.network.ends) x.network.alphas) x.network.nodes) x.network.facts) L9 w' ∧ ZLq (L1 ++ (L2 ++ (L3 ++ (L4 ++ (L5 ++ (L6 ++ (L7 ++ (L8 ++ L9)))))))) w w' := by
  have bn1 : Hid (w.heap.size ∉ L1) := fun m => Nat.lt_irrefl _ (g1.lt _ m)
  have bn2 : Hid (w.heap.size ∉ L2) := fun m => Nat.lt_irrefl _ (g2.lt _ m)
  have bn3 : Hid (w.heap.size ∉ L3) := fun m => Nat.lt_irrefl _ (g3.lt _ m)
  have bn4 : Hid (w.heap.size ∉ L4) := fun m => Nat.lt_irrefl _ (g4.lt _ m)
  have bn5 : Hid (w.heap.size ∉ L5) := fun m => Nat.lt_irrefl _ (g5.lt _ m)
  have bn6 : Hid (w.heap.size ∉ L6) := fun m => Nat.lt_irrefl _ (g6.lt _ m)
  have bn7 : Hid (w.heap.size ∉ L7) := fun m => Nat.lt_irrefl _ (g7.lt _ m)
  have bn8 : Hid (w.heap.size ∉ L8) := fun m => Nat.lt_irrefl _ (g8.lt _ m)
  have bn9 : Hid (w.heap.size ∉ L9) := fun m => Nat.lt_irrefl _ (g9.lt _ m)
  have G1 := Lib.hid (g1.alloc (.cells #[.slice A1 x.engine.rules.length c1, .slice A2 x.engine.memory.length c2, .int .i64 x.engine.clock, .slice A3 x.engine.fired.length c3, .bool x.engine.halted, .slice A4 x.engine.log.length c4, .slice A5 x.network.rules.length c5, .slice A6 x.network.ends.length c6, .slice A7 x.network.alphas.length c7, .slice A8 x.network.nodes.length c8, .slice A9 x.network.facts.length c9, .int .i64 x.network.tries] 35))
  have G2 := Lib.hid (g2.alloc (.cells #[.slice A1 x.engine.rules.length c1, .slice A2 x.engine.memory.length c2, .int .i64 x.engine.clock, .slice A3 x.engine.fired.length c3, .bool x.engine.halted, .slice A4 x.engine.log.length c4, .slice A5 x.network.rules.length c5, .slice A6 x.network.ends.length c6, .slice A7 x.network.alphas.length c7, .slice A8 x.network.nodes.length c8, .slice A9 x.network.facts.length c9, .int .i64 x.network.tries] 35))
  have G3 := Lib.hid (g3.alloc (.cells #[.slice A1 x.engine.rules.length c1, .slice A2 x.engine.memory.length c2, .int .i64 x.engine.clock, .slice A3 x.engine.fired.length c3, .bool x.engine.halted, .slice A4 x.engine.log.length c4, .slice A5 x.network.rules.length c5, .slice A6 x.network.ends.length c6, .slice A7 x.network.alphas.length c7, .slice A8 x.network.nodes.length c8, .slice A9 x.network.facts.length c9, .int .i64 x.network.tries] 35))
  have G4 := Lib.hid (g4.alloc (.cells #[.slice A1 x.engine.rules.length c1, .slice A2 x.engine.memory.length c2, .int .i64 x.engine.clock, .slice A3 x.engine.fired.length c3, .bool x.engine.halted, .slice A4 x.engine.log.length c4, .slice A5 x.network.rules.length c5, .slice A6 x.network.ends.length c6, .slice A7 x.network.alphas.length c7, .slice A8 x.network.nodes.length c8, .slice A9 x.network.facts.length c9, .int .i64 x.network.tries] 35))
  have G5 := Lib.hid (g5.alloc (.cells #[.slice A1 x.engine.rules.length c1, .slice A2 x.engine.memory.length c2, .int .i64 x.engine.clock, .slice A3 x.engine.fired.length c3, .bool x.engine.halted, .slice A4 x.engine.log.length c4, .slice A5 x.network.rules.length c5, .slice A6 x.network.ends.length c6, .slice A7 x.network.alphas.length c7, .slice A8 x.network.nodes.length c8, .slice A9 x.network.facts.length c9, .int .i64 x.network.tries] 35))
  have G6 := Lib.hid (g6.alloc (.cells #[.slice A1 x.engine.rules.length c1, .slice A2 x.engine.memory.length c2, .int .i64 x.engine.clock, .slice A3 x.engine.fired.length c3, .bool x.engine.halted, .slice A4 x.engine.log.length c4, .slice A5 x.network.rules.length c5, .slice A6 x.network.ends.length c6, .slice A7 x.network.alphas.length c7, .slice A8 x.network.nodes.length c8, .slice A9 x.network.facts.length c9, .int .i64 x.network.tries] 35))
  have G7 := Lib.hid (g7.alloc (.cells #[.slice A1 x.engine.rules.length c1, .slice A2 x.engine.memory.length c2, .int .i64 x.engine.clock, .slice A3 x.engine.fired.length c3, .bool x.engine.halted, .slice A4 x.engine.log.length c4, .slice A5 x.network.rules.length c5, .slice A6 x.network.ends.length c6, .slice A7 x.network.alphas.length c7, .slice A8 x.network.nodes.length c8, .slice A9 x.network.facts.length c9, .int .i64 x.network.tries] 35))
  have G8 := Lib.hid (g8.alloc (.cells #[.slice A1 x.engine.rules.length c1, .slice A2 x.engine.memory.length c2, .int .i64 x.engine.clock, .slice A3 x.engine.fired.length c3, .bool x.engine.halted, .slice A4 x.engine.log.length c4, .slice A5 x.network.rules.length c5, .slice A6 x.network.ends.length c6, .slice A7 x.network.alphas.length c7, .slice A8 x.network.nodes.length c8, .slice A9 x.network.facts.length c9, .int .i64 x.network.tries] 35))
  have G9 := Lib.hid (g9.alloc (.cells #[.slice A1 x.engine.rules.length c1, .slice A2 x.engine.memory.length c2, .int .i64 x.engine.clock, .slice A3 x.engine.fired.length c3, .bool x.engine.halted, .slice A4 x.engine.log.length c4, .slice A5 x.network.rules.length c5, .slice A6 x.network.ends.length c6, .slice A7 x.network.alphas.length c7, .slice A8 x.network.nodes.length c8, .slice A9 x.network.facts.length c9, .int .i64 x.network.tries] 35))
  have ap1_2 := Lib.hid p1_2
  have ap2_1 : Hid (∀ y ∈ L2, y ∉ L1) := fun y m m' => p1_2 y m' m
  have ap1_3 := Lib.hid p1_3
  have ap3_1 : Hid (∀ y ∈ L3, y ∉ L1) := fun y m m' => p1_3 y m' m
  have ap1_4 := Lib.hid p1_4
  have ap4_1 : Hid (∀ y ∈ L4, y ∉ L1) := fun y m m' => p1_4 y m' m
  have ap1_5 := Lib.hid p1_5
  have ap5_1 : Hid (∀ y ∈ L5, y ∉ L1) := fun y m m' => p1_5 y m' m
  have ap1_6 := Lib.hid p1_6
  have ap6_1 : Hid (∀ y ∈ L6, y ∉ L1) := fun y m m' => p1_6 y m' m
  have ap1_7 := Lib.hid p1_7
  have ap7_1 : Hid (∀ y ∈ L7, y ∉ L1) := fun y m m' => p1_7 y m' m
  have ap1_8 := Lib.hid p1_8
  have ap8_1 : Hid (∀ y ∈ L8, y ∉ L1) := fun y m m' => p1_8 y m' m
  have ap1_9 := Lib.hid p1_9
  have ap9_1 : Hid (∀ y ∈ L9, y ∉ L1) := fun y m m' => p1_9 y m' m
  have ap2_3 := Lib.hid p2_3
  have ap3_2 : Hid (∀ y ∈ L3, y ∉ L2) := fun y m m' => p2_3 y m' m
  have ap2_4 := Lib.hid p2_4
  have ap4_2 : Hid (∀ y ∈ L4, y ∉ L2) := fun y m m' => p2_4 y m' m
  have ap2_5 := Lib.hid p2_5
  have ap5_2 : Hid (∀ y ∈ L5, y ∉ L2) := fun y m m' => p2_5 y m' m
  have ap2_6 := Lib.hid p2_6
  have ap6_2 : Hid (∀ y ∈ L6, y ∉ L2) := fun y m m' => p2_6 y m' m
  have ap2_7 := Lib.hid p2_7
  have ap7_2 : Hid (∀ y ∈ L7, y ∉ L2) := fun y m m' => p2_7 y m' m
  have ap2_8 := Lib.hid p2_8
  have ap8_2 : Hid (∀ y ∈ L8, y ∉ L2) := fun y m m' => p2_8 y m' m
  have ap2_9 := Lib.hid p2_9
  have ap9_2 : Hid (∀ y ∈ L9, y ∉ L2) := fun y m m' => p2_9 y m' m
  have ap3_4 := Lib.hid p3_4
  have ap4_3 : Hid (∀ y ∈ L4, y ∉ L3) := fun y m m' => p3_4 y m' m
  have ap3_5 := Lib.hid p3_5
  have ap5_3 : Hid (∀ y ∈ L5, y ∉ L3) := fun y m m' => p3_5 y m' m
  have ap3_6 := Lib.hid p3_6
  have ap6_3 : Hid (∀ y ∈ L6, y ∉ L3) := fun y m m' => p3_6 y m' m
  have ap3_7 := Lib.hid p3_7
  have ap7_3 : Hid (∀ y ∈ L7, y ∉ L3) := fun y m m' => p3_7 y m' m
  have ap3_8 := Lib.hid p3_8
  have ap8_3 : Hid (∀ y ∈ L8, y ∉ L3) := fun y m m' => p3_8 y m' m
  have ap3_9 := Lib.hid p3_9
  have ap9_3 : Hid (∀ y ∈ L9, y ∉ L3) := fun y m m' => p3_9 y m' m
  have ap4_5 := Lib.hid p4_5
  have ap5_4 : Hid (∀ y ∈ L5, y ∉ L4) := fun y m m' => p4_5 y m' m
  have ap4_6 := Lib.hid p4_6
  have ap6_4 : Hid (∀ y ∈ L6, y ∉ L4) := fun y m m' => p4_6 y m' m
  have ap4_7 := Lib.hid p4_7
  have ap7_4 : Hid (∀ y ∈ L7, y ∉ L4) := fun y m m' => p4_7 y m' m
  have ap4_8 := Lib.hid p4_8
  have ap8_4 : Hid (∀ y ∈ L8, y ∉ L4) := fun y m m' => p4_8 y m' m
  have ap4_9 := Lib.hid p4_9
  have ap9_4 : Hid (∀ y ∈ L9, y ∉ L4) := fun y m m' => p4_9 y m' m
  have ap5_6 := Lib.hid p5_6
  have ap6_5 : Hid (∀ y ∈ L6, y ∉ L5) := fun y m m' => p5_6 y m' m
  have ap5_7 := Lib.hid p5_7
  have ap7_5 : Hid (∀ y ∈ L7, y ∉ L5) := fun y m m' => p5_7 y m' m
  have ap5_8 := Lib.hid p5_8
  have ap8_5 : Hid (∀ y ∈ L8, y ∉ L5) := fun y m m' => p5_8 y m' m
  have ap5_9 := Lib.hid p5_9
  have ap9_5 : Hid (∀ y ∈ L9, y ∉ L5) := fun y m m' => p5_9 y m' m
  have ap6_7 := Lib.hid p6_7
  have ap7_6 : Hid (∀ y ∈ L7, y ∉ L6) := fun y m m' => p6_7 y m' m
  have ap6_8 := Lib.hid p6_8
  have ap8_6 : Hid (∀ y ∈ L8, y ∉ L6) := fun y m m' => p6_8 y m' m
  have ap6_9 := Lib.hid p6_9
  have ap9_6 : Hid (∀ y ∈ L9, y ∉ L6) := fun y m m' => p6_9 y m' m
  have ap7_8 := Lib.hid p7_8
  have ap8_7 : Hid (∀ y ∈ L8, y ∉ L7) := fun y m m' => p7_8 y m' m
  have ap7_9 := Lib.hid p7_9
  have ap9_7 : Hid (∀ y ∈ L9, y ∉ L7) := fun y m m' => p7_9 y m' m
  have ap8_9 := Lib.hid p8_9
  have ap9_8 : Hid (∀ y ∈ L9, y ∉ L8) := fun y m m' => p8_9 y m' m
  have K0 : Hid (Blk (w.alloc (.cells #[.slice A1 x.engine.rules.length c1, .slice A2 x.engine.memory.length c2, .int .i64 x.engine.clock, .slice A3 x.engine.fired.length c3, .bool x.engine.halted, .slice A4 x.engine.log.length c4, .slice A5 x.network.rules.length c5, .slice A6 x.network.ends.length c6, .slice A7 x.network.alphas.length c7, .slice A8 x.network.nodes.length c8, .slice A9 x.network.facts.length c9, .int .i64 x.network.tries] 35)) w.heap.size 35 #[.slice A1 x.engine.rules.length c1, .slice A2 x.engine.memory.length c2, .int .i64 x.engine.clock, .slice A3 x.engine.fired.length c3, .bool x.engine.halted, .slice A4 x.engine.log.length c4, .slice A5 x.network.rules.length c5, .slice A6 x.network.ends.length c6, .slice A7 x.network.alphas.length c7, .slice A8 x.network.nodes.length c8, .slice A9 x.network.facts.length c9, .int .i64 x.network.tries]) := Blk.new _ _ _
  have O0 : Hid (ZLq (L1 ++ (L2 ++ (L3 ++ (L4 ++ (L5 ++ (L6 ++ (L7 ++ (L8 ++ L9)))))))) w (w.alloc (.cells #[.slice A1 x.engine.rules.length c1, .slice A2 x.engine.memory.length c2, .int .i64 x.engine.clock, .slice A3 x.engine.fired.length c3, .bool x.engine.halted, .slice A4 x.engine.log.length c4, .slice A5 x.network.rules.length c5, .slice A6 x.network.ends.length c6, .slice A7 x.network.alphas.length c7, .slice A8 x.network.nodes.length c8, .slice A9 x.network.facts.length c9, .int .i64 x.network.tries] 35))) := ZLq.of_below ((Below.refl _ _).alloc (Nat.le_refl _) _) _
  clear g1 g2 g3 g4 g5 g6 g7 g8 g9 p1_2 p1_3 p1_4 p1_5 p1_6 p1_7 p1_8 p1_9 p2_3 p2_4 p2_5 p2_6 p2_7 p2_8 p2_9 p3_4 p3_5 p3_6 p3_7 p3_8 p3_9 p4_5 p4_6 p4_7 p4_8 p4_9 p5_6 p5_7 p5_8 p5_9 p6_7 p6_8 p6_9 p7_8 p7_9 p8_9
  unfold ZLC at hk1
  have := ZMG (k) x.engine
  have := ZMz (ZLh (k) x.engine) x.network
  go_enter Tryz.func7, Tryz.ntmps7
  go_wp2_with fail
  refine (ZOF x.engine A1 c1 L1 A2 c2 L2 A3 c3 L3 A4 c4 L4 base _ _ (by omega) (by omega) l1 l2 l3 l4 G1.out G2.out G3.out G4.out ap1_2.out ap1_3.out ap1_4.out ap2_3.out ap2_4.out ap3_4.out).mono ?_
  rintro e w1 ⟨rfl, h1, h2, h3, h4, on1⟩
  have G1 := Lib.hid h1
  have G2 := Lib.hid h2
  have G3 := Lib.hid h3
  have G4 := Lib.hid h4
  have G5 := Lib.hid (G5.out.only on1 (fun y m m' => by simp only [List.mem_append] at m'; rcases m' with m' | m' | m' | m' <;> first | exact ap5_1.out y m m' | exact ap5_2.out y m m' | exact ap5_3.out y m m' | exact ap5_4.out y m m'))
  have G6 := Lib.hid (G6.out.only on1 (fun y m m' => by simp only [List.mem_append] at m'; rcases m' with m' | m' | m' | m' <;> first | exact ap6_1.out y m m' | exact ap6_2.out y m m' | exact ap6_3.out y m m' | exact ap6_4.out y m m'))
  have G7 := Lib.hid (G7.out.only on1 (fun y m m' => by simp only [List.mem_append] at m'; rcases m' with m' | m' | m' | m' <;> first | exact ap7_1.out y m m' | exact ap7_2.out y m m' | exact ap7_3.out y m m' | exact ap7_4.out y m m'))
  have G8 := Lib.hid (G8.out.only on1 (fun y m m' => by simp only [List.mem_append] at m'; rcases m' with m' | m' | m' | m' <;> first | exact ap8_1.out y m m' | exact ap8_2.out y m m' | exact ap8_3.out y m m' | exact ap8_4.out y m m'))
  have G9 := Lib.hid (G9.out.only on1 (fun y m m' => by simp only [List.mem_append] at m'; rcases m' with m' | m' | m' | m' <;> first | exact ap9_1.out y m m' | exact ap9_2.out y m m' | exact ap9_3.out y m m' | exact ap9_4.out y m m'))
  have K1 := Lib.hid (ZMc K0.out on1 (fun m' => by simp only [List.mem_append] at m'; rcases m' with m' | m' | m' | m' <;> first | exact bn1.out m' | exact bn2.out m' | exact bn3.out m' | exact bn4.out m'))
  have f0 := K1.out.at (i := 0) rfl
  have f1 := K1.out.at (i := 1) rfl
  have f2 := K1.out.at (i := 2) rfl
  have f3 := K1.out.at (i := 3) rfl
  have f4 := K1.out.at (i := 4) rfl
  have f5 := K1.out.at (i := 5) rfl
  have f6 := K1.out.at (i := 6) rfl
  have f7 := K1.out.at (i := 7) rfl
  have f8 := K1.out.at (i := 8) rfl
  have f9 := K1.out.at (i := 9) rfl
  have f10 := K1.out.at (i := 10) rfl
  have f11 := K1.out.at (i := 11) rfl
  have O1 : Hid (ZLq (L1 ++ (L2 ++ (L3 ++ (L4 ++ (L5 ++ (L6 ++ (L7 ++ (L8 ++ L9)))))))) w w1) := O0.out.trans (on1.mono (fun y m => by first | exact m | (simp [m]; done) | (simp only [List.mem_append] at m ⊢; (repeat' (refine Or.elim m (fun m => ?_) (fun m => ?_))) <;> simp [m])))
  clear on1 h1 h2 h3 h4
  go_wp2_with fail
  refine (ZOx x.network A5 c5 L5 A6 c6 L6 A7 c7 L7 A8 c8 L8 A9 c9 L9 base _ _ (by omega) (by omega) l5 l6 l7 l8 l9 G5.out G6.out G7.out G8.out G9.out ap5_6.out ap5_7.out ap5_8.out ap5_9.out ap6_7.out ap6_8.out ap6_9.out ap7_8.out ap7_9.out ap8_9.out).mono ?_
  rintro e w2 ⟨rfl, h5, h6, h7, h8, h9, on2⟩
  have G1 := Lib.hid (G1.out.only on2 (fun y m m' => by simp only [List.mem_append] at m'; rcases m' with m' | m' | m' | m' | m' <;> first | exact ap1_5.out y m m' | exact ap1_6.out y m m' | exact ap1_7.out y m m' | exact ap1_8.out y m m' | exact ap1_9.out y m m'))
  have G2 := Lib.hid (G2.out.only on2 (fun y m m' => by simp only [List.mem_append] at m'; rcases m' with m' | m' | m' | m' | m' <;> first | exact ap2_5.out y m m' | exact ap2_6.out y m m' | exact ap2_7.out y m m' | exact ap2_8.out y m m' | exact ap2_9.out y m m'))
  have G3 := Lib.hid (G3.out.only on2 (fun y m m' => by simp only [List.mem_append] at m'; rcases m' with m' | m' | m' | m' | m' <;> first | exact ap3_5.out y m m' | exact ap3_6.out y m m' | exact ap3_7.out y m m' | exact ap3_8.out y m m' | exact ap3_9.out y m m'))
  have G4 := Lib.hid (G4.out.only on2 (fun y m m' => by simp only [List.mem_append] at m'; rcases m' with m' | m' | m' | m' | m' <;> first | exact ap4_5.out y m m' | exact ap4_6.out y m m' | exact ap4_7.out y m m' | exact ap4_8.out y m m' | exact ap4_9.out y m m'))
  have G5 := Lib.hid h5
  have G6 := Lib.hid h6
  have G7 := Lib.hid h7
  have G8 := Lib.hid h8
  have G9 := Lib.hid h9
  have K2 := Lib.hid (ZMc K1.out on2 (fun m' => by simp only [List.mem_append] at m'; rcases m' with m' | m' | m' | m' | m' <;> first | exact bn5.out m' | exact bn6.out m' | exact bn7.out m' | exact bn8.out m' | exact bn9.out m'))
  clear f0 f1 f2 f3 f4 f5 f6 f7 f8 f9 f10 f11
  have f0 := K2.out.at (i := 0) rfl
  have f1 := K2.out.at (i := 1) rfl
  have f2 := K2.out.at (i := 2) rfl
  have f3 := K2.out.at (i := 3) rfl
  have f4 := K2.out.at (i := 4) rfl
  have f5 := K2.out.at (i := 5) rfl
  have f6 := K2.out.at (i := 6) rfl
  have f7 := K2.out.at (i := 7) rfl
  have f8 := K2.out.at (i := 8) rfl
  have f9 := K2.out.at (i := 9) rfl
  have f10 := K2.out.at (i := 10) rfl
  have f11 := K2.out.at (i := 11) rfl
  have O2 : Hid (ZLq (L1 ++ (L2 ++ (L3 ++ (L4 ++ (L5 ++ (L6 ++ (L7 ++ (L8 ++ L9)))))))) w w2) := O1.out.trans (on2.mono (fun y m => by first | exact m | (simp [m]; done) | (simp only [List.mem_append] at m ⊢; (repeat' (refine Or.elim m (fun m => ?_) (fun m => ?_))) <;> simp [m])))
  clear on2 h5 h6 h7 h8 h9
  go_wp2_with fail
  go_ret
  exact ⟨ZL2 rfl, G1.out, G2.out, G3.out, G4.out, G5.out, G6.out, G7.out, G8.out, G9.out, O2.out⟩
theorem ZO8 (cs : List Value) (x : ZMq) (L : List Nat) (base : Nat) (k : Int) (w : World) (hk0 : 1 ≤ k) (hk1 : ZLC k x ≤ 4611686018427387904) (h : Got ZNR base cs x L w) :
    Calls Tryz.prog 7 #[.agg cs.toArray, .int .i64 k] w fun e w' => e = .returned (.int .i64 (ZLC k x)) ∧ Got ZNR base cs (ZOh k x) L w' ∧ ZLq L w w' := by
  obtain ⟨hrep, ho⟩ := h
  obtain ⟨A1, c1, L1, A2, c2, L2, A3, c3, L3, A4, c4, L4, A5, c5, L5, A6, c6, L6, A7, c7, L7, A8, c8, L8, A9, c9, L9, rfl, hLL, n1, m1, s1, n2, m2, s2, n3, m3, s3, n4, m4, s4, n5, m5, s5, n6, m6, s6, n7, m7, s7, n8, m8, s8, n9, m9, s9⟩ := hrep
  subst L
  refine (ZPt x A1 c1 L1 A2 c2 L2 A3 c3 L3 A4 c4 L4 A5 c5 L5 A6 c6 L6 A7 c7 L7 A8 c8 L8 A9 c9 L9 base k w hk0 hk1 (by unfold maxLen at m1; omega) (by unfold maxLen at m2; omega) (by unfold maxLen at m3; omega) (by unfold maxLen at m4; omega) (by unfold maxLen at m5; omega) (by unfold maxLen at m6; omega) (by unfold maxLen at m7; omega) (by unfold maxLen at m8; omega) (by unfold maxLen at m9; omega) ⟨⟨A1, c1, rfl, n1, m1, s1⟩, ho.left⟩ ⟨⟨A2, c2, rfl, n2, m2, s2⟩, ho.right.left⟩ ⟨⟨A3, c3, rfl, n3, m3, s3⟩, ho.right.right.left⟩ ⟨⟨A4, c4, rfl, n4, m4, s4⟩, ho.right.right.right.left⟩ ⟨⟨A5, c5, rfl, n5, m5, s5⟩, ho.right.right.right.right.left⟩ ⟨⟨A6, c6, rfl, n6, m6, s6⟩, ho.right.right.right.right.right.left⟩ ⟨⟨A7, c7, rfl, n7, m7, s7⟩, ho.right.right.right.right.right.right.left⟩ ⟨⟨A8, c8, rfl, n8, m8, s8⟩, ho.right.right.right.right.right.right.right.left⟩ ⟨⟨A9, c9, rfl, n9, m9, s9⟩, ho.right.right.right.right.right.right.right.right⟩ (fun y m m' => ho.apart y m (by simp [m'])) (fun y m m' => ho.apart y m (by simp [m'])) (fun y m m' => ho.apart y m (by simp [m'])) (fun y m m' => ho.apart y m (by simp [m'])) (fun y m m' => ho.apart y m (by simp [m'])) (fun y m m' => ho.apart y m (by simp [m'])) (fun y m m' => ho.apart y m (by simp [m'])) (fun y m m' => ho.apart y m (by simp [m'])) (fun y m m' => ho.right.apart y m (by simp [m'])) (fun y m m' => ho.right.apart y m (by simp [m'])) (fun y m m' => ho.right.apart y m (by simp [m'])) (fun y m m' => ho.right.apart y m (by simp [m'])) (fun y m m' => ho.right.apart y m (by simp [m'])) (fun y m m' => ho.right.apart y m (by simp [m'])) (fun y m m' => ho.right.apart y m (by simp [m'])) (fun y m m' => ho.right.right.apart y m (by simp [m'])) (fun y m m' => ho.right.right.apart y m (by simp [m'])) (fun y m m' => ho.right.right.apart y m (by simp [m'])) (fun y m m' => ho.right.right.apart y m (by simp [m'])) (fun y m m' => ho.right.right.apart y m (by simp [m'])) (fun y m m' => ho.right.right.apart y m (by simp [m'])) (fun y m m' => ho.right.right.right.apart y m (by simp [m'])) (fun y m m' => ho.right.right.right.apart y m (by simp [m'])) (fun y m m' => ho.right.right.right.apart y m (by simp [m'])) (fun y m m' => ho.right.right.right.apart y m (by simp [m'])) (fun y m m' => ho.right.right.right.apart y m (by simp [m'])) (fun y m m' => ho.right.right.right.right.apart y m (by simp [m'])) (fun y m m' => ho.right.right.right.right.apart y m (by simp [m'])) (fun y m m' => ho.right.right.right.right.apart y m (by simp [m'])) (fun y m m' => ho.right.right.right.right.apart y m (by simp [m'])) (fun y m m' => ho.right.right.right.right.right.apart y m (by simp [m'])) (fun y m m' => ho.right.right.right.right.right.apart y m (by simp [m'])) (fun y m m' => ho.right.right.right.right.right.apart y m (by simp [m'])) (fun y m m' => ho.right.right.right.right.right.right.apart y m (by simp [m'])) (fun y m m' => ho.right.right.right.right.right.right.apart y m (by simp [m'])) (fun y m m' => ho.right.right.right.right.right.right.right.apart y m (by simp [m']))).mono ?_
  rintro e w' ⟨rfl, g1, g2, g3, g4, g5, g6, g7, g8, g9, on⟩
  obtain ⟨nn1, mm1, ss1⟩ := ZeR g1.rep
  obtain ⟨nn2, mm2, ss2⟩ := ZeR g2.rep
  obtain ⟨nn3, mm3, ss3⟩ := ZeR g3.rep
  obtain ⟨nn4, mm4, ss4⟩ := ZeR g4.rep
  obtain ⟨nn5, mm5, ss5⟩ := ZeR g5.rep
  obtain ⟨nn6, mm6, ss6⟩ := ZeR g6.rep
  obtain ⟨nn7, mm7, ss7⟩ := ZeR g7.rep
  obtain ⟨nn8, mm8, ss8⟩ := ZeR g8.rep
  obtain ⟨nn9, mm9, ss9⟩ := ZeR g9.rep
  refine ⟨rfl, ⟨⟨A1, c1, L1, A2, c2, L2, A3, c3, L3, A4, c4, L4, A5, c5, L5, A6, c6, L6, A7, c7, L7, A8, c8, L8, A9, c9, L9, by simp [ZOh, ZNW, ZNE, ZMw, ZMB, ZMv, ZMC, ZMu, ZME, ZMH, ZMd], rfl, nn1, mm1, ss1, nn2, mm2, ss2, nn3, mm3, ss3, nn4, mm4, ss4, nn5, mm5, ss5, nn6, mm6, ss6, nn7, mm7, ss7, nn8, mm8, ss8, nn9, mm9, ss9⟩, ho.nodup, ho.ge, fun y m => ?_⟩, on⟩
  try simp only [List.mem_append] at m
  rcases m with m | m | m | m | m | m | m | m | m
  · exact g1.own.plain y m
  · exact g2.own.plain y m
  · exact g3.own.plain y m
  · exact g4.own.plain y m
  · exact g5.own.plain y m
  · exact g6.own.plain y m
  · exact g7.own.plain y m
  · exact g8.own.plain y m
  · exact g9.own.plain y m
end
end Go.Proofs.YthikodhnkaofaaaGreatDoor
