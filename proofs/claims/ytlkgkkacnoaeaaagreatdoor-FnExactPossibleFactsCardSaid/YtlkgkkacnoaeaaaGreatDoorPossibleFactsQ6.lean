/- Texts of this proof, joined: To, Eq, MText, Mk, Mark, Held, Open, ExactPossibleFacts, Opens. What each holds is said at its theorems. -/
import Derived.Test.YtlkgkkacnoaeaaaGreatDoorProg
import Derived.Test.YtlkgkkacnoaeaaaGreatDoorPossibleFactsQ1
import Derived.Outline
import Derived.WalkSpells
import Derived.StillTailTactics
import Derived.WalkLawsBesides
import Derived.Deep.RegionHeld3
import Derived.Deep.Slices
import Derived.ChangeArms
import Derived.ProofKit
import Derived.Test.YtlkgkkacnoaeaaaGreatDoorPossibleFactsQ2
import Derived.Test.YtlkgkkacnoaeaaaGreatDoorPossibleFactsQ5
set_option linter.unusedSimpArgs false
set_option linter.unusedVariables false
namespace Go.Proofs.YtlkgkkacnoaeaaaGreatDoor
open Go.RowKit

theorem Tryz.infoString_ : (Tryz.prog.info? 9).map (fun i => (i.zero, i.size, i.bytes)) = some (some (.string ⟨#[]⟩), 1, 16) := by kernel_rfl
set_option maxHeartbeats 1600000 in
theorem toStringS_any (A : Option Addr) (n c : Nat) (ds : List ByteArray) (L : List Nat) (w : World) (hn : n = ds.length) (hm : ds.length ≤ 1099511627776) (h : Sli strC w A ds L) :
    Calls Tryz.prog 63 #[.slice A n c] w (GivesS strC 9 w ds) := by
  obtain ⟨i0, hi, hz0, hz1, hz2⟩ := info_parts Tryz.infoString_
  rw [← hn] at hm
  have H := Lib.hid h
  have HN := Lib.hid hn
  clear h hn
  go_enter Tryz.func63, Tryz.ntmps63
  go_wp2_with (at_make; refine wpList_make_full _ rfl _ _ 44 rfl w.heap.size 9 i0 _ 1 Tryz.underlying44 hi hz0 hz1 .i64 .i64 _ _ n rfl rfl rfl rfl (by rw [hz2]; omega) (by unfold maxLen; omega) (Nat.le_refl _) ?_; intro w1 hown hg)
  have hb : Below w.heap.size w w1 := (Below.refl _ _).grown hg (Nat.le_refl _) (by simp)
  have HF0 : Hid (Filling strC 9 w n ds 0 w1) := Filling.start hown hb
  clear hown hg hb
  go_wp2
  go_loopw [4] (fun i wr => ∃ (k : Nat), k ≤ n ∧ i = .int .i64 k ∧ Hid (Filling strC 9 w n ds k wr)) (fun i _ => n - (intOf i).toNat)
  case atStart => exact ⟨0, Nat.zero_le _, rfl, HF0⟩
  case round =>
    obtain ⟨k, hk, rfl, HF⟩ := hrel
    by_cases hlt : k < n
    · have hkl : k < ds.length := by have := HN.out; omega
      obtain ⟨b, off, cs, Lk, rfl, hbL, hLk, hrep, hc⟩ := H.out.at_ hkl
      have hbl : b < w.heap.size := H.out.lt b hbL
      have hrep0 := hrep
      obtain ⟨rfl, _, hss⟩ := hrep0
      have q0 := (HF.out.below.cell (p := ⟨b, off + (k * strC.size + 0), none⟩) hbl).trans (hc 0 _ rfl)
      have HS := Lib.hid (HF.out.store (w2 := wr) (x := ds[k]) (M := []) hlt HN.out (fun _ => rfl) (Below.refl _ _) ⟨⟨rfl, rfl, hss⟩, Own.nil _ _⟩)
      obtain ⟨d0, e0⟩ := HF.out.cell hlt (j := 0) (by decide)
      have z0 := HF.out.frozen k
      simp only [show strC.size = 1 from rfl, Nat.mul_one, Nat.add_zero] at q0 HS e0
      generalize ds[k] = x at *
      clear hc hrep
      go_wp2_with fail
      go_roundw
      case rel => exact ⟨k + 1, by omega, by go_num, HS.out⟩
      case measure => simp [intOf]; omega
    · obtain rfl : k = n := by omega
      go_wp2
      go_ret
      exact ⟨_, rfl, HF.out.done HN.out⟩

set_option maxHeartbeats 1600000 in
theorem toFact_any (cs : List Value) (x : FactD) (L : List Nat) (w : World) (hz : costFact x ≤ 1048576) (h : cFact.rep w cs x L) :
    Calls Tryz.prog 27 #[.agg cs.toArray] w (Gives cFact w x) := by
  obtain ⟨A1, c1, L1, rfl, _hL, t0, n1, m1, s1⟩ := h
  unfold maxLen at m1
  have S1 := Lib.hid s1
  clear s1
  simp only [costFact] at hz
  go_enter Tryz.func27, Tryz.ntmps27
  go_wp2_with fail
  refine (toStringS_any A1 _ c1 x.args L1 _ rfl (by simp only [costStrs] at hz; omega) (S1.out.below (by repeat (first | refine Below.setCell ?_ (by dsimp only; omega) _ | refine Below.alloc ?_ (by first | (simp; done) | (simp; omega) | omega) _ | exact Below.refl _ _)))).mono ?_
  rintro e w1 ⟨v1, rfl, a1⟩
  obtain ⟨vA1, vc1, rfl⟩ := a1.shape
  have hb1 := a1.below
  obtain ⟨M1, g1⟩ := a1.got
  clear a1
  have G1 := Lib.hid (g1.mono (show w.heap.size + 3 ≤ _ by simp))
  have lt1 := Lib.hid g1.lt
  clear g1
  have B1 : Hid (Below w.heap.size w w1) := Below.trans (by repeat (first | refine Below.setCell ?_ (by dsimp only; omega) _ | refine Below.alloc ?_ (by first | (simp; done) | (simp; omega) | omega) _ | exact Below.refl _ _)) (hb1.mono (by first | (simp; done) | (simp; omega) | omega))
  have K0 : Hid (Blk w1 w.heap.size 46 #[.string x.rel, .slice A1 x.args.length c1]) := Blk.later (Blk.alloc (Blk.alloc (Blk.new _ _ _) _) _) hb1
  have K1 : Hid (Blk w1 (w.heap.size + 1) 57 #[.string ⟨#[]⟩, .slice none 0 0]) := Blk.later (Blk.alloc (Blk.new_at (by simp)) _) hb1
  have K2 : Hid (Blk w1 (w.heap.size + 1 + 1) 57 #[.string x.rel, .slice none 0 0]) := Blk.later (Blk.new_at (by simp)) hb1
  have f0 := K0.out.at (i := 0) rfl
  have r0 := K1.out.at (i := 0) rfl
  have o0 := K2.out.at (i := 0) rfl
  have rz0 := K1.out.frozen 0
  have oz0 := K2.out.frozen 0
  have f1 := K0.out.at (i := 1) rfl
  have r1 := K1.out.at (i := 1) rfl
  have o1 := K2.out.at (i := 1) rfl
  have rz1 := K1.out.frozen 1
  have oz1 := K2.out.frozen 1
  have hz1 : w.heap.size + 2 < w1.heap.size := by have := hb1.size; simp at this; omega
  clear hb1
  go_wp2_with fail
  refine bodyPost_ret (v := .agg #[.string x.rel, .slice vA1 x.args.length vc1]) (by simp [results, Tryz.results27, go_sem, r0, r1]) rfl ?_
  obtain ⟨nn1, mm1, ss1⟩ := sliceC_out G1.out.rep
  exact gives_of (wr := w1) (M1) ⟨⟨vA1, vc1, M1, rfl, rfl, t0, nn1, mm1, ss1⟩, by have o := G1.out.own; simpa only [List.append_assoc] using o⟩ (by intro b hb; repeat rw [Below.heap_setCell _ _ _ _ (by dsimp only; omega)]) (by repeat (first | refine Below.setCell ?_ (by dsimp only; omega) _ | refine Below.alloc ?_ (by first | (simp; done) | (simp; omega) | omega) _ | exact B1.out))

theorem Tryz.infoFact : (Tryz.prog.info? 57).map (fun i => (i.zero, i.size, i.bytes)) = some (some (.agg #[.string ⟨#[]⟩, .slice none 0 0]), 2, 40) := by kernel_rfl
set_option maxHeartbeats 1600000 in
theorem toFactS_any (A : Option Addr) (n c : Nat) (ds : List FactD) (L : List Nat) (w : World) (hn : n = ds.length) (hz : costFactS ds ≤ 1048576) (h : Sli cFact w A ds L) :
    Calls Tryz.prog 9 #[.slice A n c] w (GivesS cFact 57 w ds) := by
  obtain ⟨i0, hi, hz0, hz1, hz2⟩ := info_parts Tryz.infoFact
  have H := Lib.hid h
  have HN := Lib.hid hn
  have hm : n ≤ 1048576 := by simp only [costFactS] at hz; omega
  have HZ := Lib.hid hz
  clear h hn hz
  go_enter Tryz.func9, Tryz.ntmps9
  go_wp2_with (at_make; refine wpList_make_full _ rfl _ _ 29 rfl w.heap.size 57 i0 _ 2 Tryz.underlying29 hi hz0 hz1 .i64 .i64 _ _ n rfl rfl rfl rfl (by rw [hz2]; omega) (by unfold maxLen; omega) (Nat.le_refl _) ?_; intro w1 hown hg)
  have hb : Below w.heap.size w w1 := (Below.refl _ _).grown hg (Nat.le_refl _) (by simp)
  have HF0 : Hid (Filling cFact 57 w n ds 0 w1) := Filling.start hown hb
  clear hown hg hb
  go_wp2
  go_loopw [4] (fun i wr => ∃ (k : Nat), k ≤ n ∧ i = .int .i64 k ∧ Hid (Filling cFact 57 w n ds k wr)) (fun i _ => n - (intOf i).toNat)
  case atStart => exact ⟨0, Nat.zero_le _, rfl, HF0⟩
  case round =>
    obtain ⟨k, hk, rfl, HF⟩ := hrel
    by_cases hlt : k < n
    · have hkl : k < ds.length := by have := HN.out; omega
      obtain ⟨b, off, cs, Lk, rfl, hbL, hLk, hrep, hc⟩ := H.out.at_ hkl
      have hbl : b < w.heap.size := H.out.lt b hbL
      have HR := Lib.hid (cFact.keep hrep (keep_below HF.out.below (fun y m => H.out.lt y (hLk y m))))
      obtain ⟨A1, c1, rfl⟩ := cFact_cells hrep
      have q0 : wr.cell? ⟨b, off + k * 2, none⟩ = _ := (HF.out.below.cell (p := ⟨b, off + (k * 2 + 0), none⟩) hbl).trans (hc 0 _ rfl)
      have q1 : wr.cell? ⟨b, off + k * 2 + 1, none⟩ = _ := (HF.out.below.cell (p := ⟨b, off + (k * 2 + 1), none⟩) hbl).trans (hc 1 _ rfl)
      have hcx : Hid (costFact ds[k] ≤ 1048576) := cost_le costFact ds k hkl (by have := HZ.out; simp only [costFactS] at this; omega)
      obtain ⟨x, hx⟩ : ∃ x, x = ds[k] := ⟨_, rfl⟩
      have HX := Lib.hid hx
      rw [← hx] at HR q0 q1 hcx
      clear hc hrep hx
      go_wp2_with fail
      refine (toFact_any _ x Lk _ hcx.out HR.out).mono ?_
      rintro e w2 ⟨cs2, M2, rfl, g2, hb2⟩
      have HF2 := Lib.hid (HF.out.later hb2)
      have HS := Lib.hid (HF.out.store hlt HN.out (fun _ => HX.out) hb2 g2)
      obtain ⟨vA1, vc1, rfl⟩ := cFact_cells g2.rep
      clear g2 hb2
      obtain ⟨d0, e0⟩ : ∃ d, w2.cell? ⟨w.heap.size, k * 2, none⟩ = some d := HF2.out.cell hlt (j := 0) (by decide)
      have z0 := HF2.out.frozen (k * 2)
      obtain ⟨d1, e1⟩ : ∃ d, w2.cell? ⟨w.heap.size, k * 2 + 1, none⟩ = some d := HF2.out.cell hlt (j := 1) (by decide)
      have z1 := HF2.out.frozen (k * 2 + 1)
      go_wp2_with fail
      go_roundw
      case rel => exact ⟨k + 1, by omega, by go_num, HS.out⟩
      case measure => simp [intOf]; omega
    · obtain rfl : k = n := by omega
      go_wp2
      go_ret
      exact ⟨_, rfl, HF.out.done HN.out⟩

set_option maxHeartbeats 1600000 in
theorem toPattern_any (cs : List Value) (x : PatternD) (L : List Nat) (w : World) (hz : costPattern x ≤ 1048576) (h : cPattern.rep w cs x L) :
    Calls Tryz.prog 143 #[.agg cs.toArray] w (Gives cPattern w x) := by
  obtain ⟨A1, c1, L1, rfl, _hL, t0, n1, m1, s1⟩ := h
  unfold maxLen at m1
  have S1 := Lib.hid s1
  clear s1
  simp only [costPattern] at hz
  go_enter Tryz.func143, Tryz.ntmps143
  go_wp2_with fail
  refine (toStringS_any A1 _ c1 x.args L1 _ rfl (by simp only [costStrs] at hz; omega) (S1.out.below (by repeat (first | refine Below.setCell ?_ (by dsimp only; omega) _ | refine Below.alloc ?_ (by first | (simp; done) | (simp; omega) | omega) _ | exact Below.refl _ _)))).mono ?_
  rintro e w1 ⟨v1, rfl, a1⟩
  obtain ⟨vA1, vc1, rfl⟩ := a1.shape
  have hb1 := a1.below
  obtain ⟨M1, g1⟩ := a1.got
  clear a1
  have G1 := Lib.hid (g1.mono (show w.heap.size + 3 ≤ _ by simp))
  have lt1 := Lib.hid g1.lt
  clear g1
  have B1 : Hid (Below w.heap.size w w1) := Below.trans (by repeat (first | refine Below.setCell ?_ (by dsimp only; omega) _ | refine Below.alloc ?_ (by first | (simp; done) | (simp; omega) | omega) _ | exact Below.refl _ _)) (hb1.mono (by first | (simp; done) | (simp; omega) | omega))
  have K0 : Hid (Blk w1 w.heap.size 110 #[.string x.rel, .slice A1 x.args.length c1]) := Blk.later (Blk.alloc (Blk.alloc (Blk.new _ _ _) _) _) hb1
  have K1 : Hid (Blk w1 (w.heap.size + 1) 60 #[.string ⟨#[]⟩, .slice none 0 0]) := Blk.later (Blk.alloc (Blk.new_at (by simp)) _) hb1
  have K2 : Hid (Blk w1 (w.heap.size + 1 + 1) 60 #[.string x.rel, .slice none 0 0]) := Blk.later (Blk.new_at (by simp)) hb1
  have f0 := K0.out.at (i := 0) rfl
  have r0 := K1.out.at (i := 0) rfl
  have o0 := K2.out.at (i := 0) rfl
  have rz0 := K1.out.frozen 0
  have oz0 := K2.out.frozen 0
  have f1 := K0.out.at (i := 1) rfl
  have r1 := K1.out.at (i := 1) rfl
  have o1 := K2.out.at (i := 1) rfl
  have rz1 := K1.out.frozen 1
  have oz1 := K2.out.frozen 1
  have hz1 : w.heap.size + 2 < w1.heap.size := by have := hb1.size; simp at this; omega
  clear hb1
  go_wp2_with fail
  refine bodyPost_ret (v := .agg #[.string x.rel, .slice vA1 x.args.length vc1]) (by simp [results, Tryz.results143, go_sem, r0, r1]) rfl ?_
  obtain ⟨nn1, mm1, ss1⟩ := sliceC_out G1.out.rep
  exact gives_of (wr := w1) (M1) ⟨⟨vA1, vc1, M1, rfl, rfl, t0, nn1, mm1, ss1⟩, by have o := G1.out.own; simpa only [List.append_assoc] using o⟩ (by intro b hb; repeat rw [Below.heap_setCell _ _ _ _ (by dsimp only; omega)]) (by repeat (first | refine Below.setCell ?_ (by dsimp only; omega) _ | refine Below.alloc ?_ (by first | (simp; done) | (simp; omega) | omega) _ | exact B1.out))

set_option maxHeartbeats 1600000 in
theorem toCond_any (cs : List Value) (x : CondD) (L : List Nat) (w : World) (hz : costCond x ≤ 1048576) (h : cCond.rep w cs x L) :
    Calls Tryz.prog 106 #[.agg cs.toArray] w (Gives cCond w x) := by
  obtain ⟨A1, c1, L1, rfl, _hL, t0, t1, t2, n1, m1, s1⟩ := h
  unfold maxLen at m1
  have S1 := Lib.hid s1
  clear s1
  simp only [costCond] at hz
  go_enter Tryz.func106, Tryz.ntmps106
  go_wp2_with fail
  refine (toPattern_any [.string x.pattern.rel, .slice A1 x.pattern.args.length c1] x.pattern _ _ (by omega) ⟨A1, c1, L1, rfl, rfl, t0, n1, (by unfold maxLen; omega), S1.out.below (by repeat (first | refine Below.setCell ?_ (by dsimp only; omega) _ | refine Below.alloc ?_ (by first | (simp; done) | (simp; omega) | omega) _ | exact Below.refl _ _))⟩).mono ?_
  rintro e w1 ⟨cs1, M1, rfl, g1, hb1⟩
  obtain ⟨vA1, vc1, rfl⟩ := cPattern_cells g1.rep
  have G1 := Lib.hid (g1.mono (show w.heap.size + 3 ≤ _ by simp))
  have lt1 := Lib.hid g1.lt
  clear g1
  have B1 : Hid (Below w.heap.size w w1) := Below.trans (by repeat (first | refine Below.setCell ?_ (by dsimp only; omega) _ | refine Below.alloc ?_ (by first | (simp; done) | (simp; omega) | omega) _ | exact Below.refl _ _)) (hb1.mono (by first | (simp; done) | (simp; omega) | omega))
  have K0 : Hid (Blk w1 w.heap.size 112 #[.int .i64 x.kind, .string x.pattern.rel, .slice A1 x.pattern.args.length c1, .string x.left, .string x.right]) := Blk.later (Blk.alloc (Blk.alloc (Blk.new _ _ _) _) _) hb1
  have K1 : Hid (Blk w1 (w.heap.size + 1) 99 #[.int .i64 0, .string ⟨#[]⟩, .slice none 0 0, .string ⟨#[]⟩, .string ⟨#[]⟩]) := Blk.later (Blk.alloc (Blk.new_at (by simp)) _) hb1
  have K2 : Hid (Blk w1 (w.heap.size + 1 + 1) 99 #[.int .i64 x.kind, .string ⟨#[]⟩, .slice none 0 0, .string ⟨#[]⟩, .string ⟨#[]⟩]) := Blk.later (Blk.new_at (by simp)) hb1
  have f0 := K0.out.at (i := 0) rfl
  have r0 := K1.out.at (i := 0) rfl
  have o0 := K2.out.at (i := 0) rfl
  have rz0 := K1.out.frozen 0
  have oz0 := K2.out.frozen 0
  have f1 := K0.out.at (i := 1) rfl
  have r1 := K1.out.at (i := 1) rfl
  have o1 := K2.out.at (i := 1) rfl
  have rz1 := K1.out.frozen 1
  have oz1 := K2.out.frozen 1
  have f2 := K0.out.at (i := 2) rfl
  have r2 := K1.out.at (i := 2) rfl
  have o2 := K2.out.at (i := 2) rfl
  have rz2 := K1.out.frozen 2
  have oz2 := K2.out.frozen 2
  have f3 := K0.out.at (i := 3) rfl
  have r3 := K1.out.at (i := 3) rfl
  have o3 := K2.out.at (i := 3) rfl
  have rz3 := K1.out.frozen 3
  have oz3 := K2.out.frozen 3
  have f4 := K0.out.at (i := 4) rfl
  have r4 := K1.out.at (i := 4) rfl
  have o4 := K2.out.at (i := 4) rfl
  have rz4 := K1.out.frozen 4
  have oz4 := K2.out.frozen 4
  have hz1 : w.heap.size + 2 < w1.heap.size := by have := hb1.size; simp at this; omega
  clear hb1
  go_wp2_with fail
  refine bodyPost_ret (v := .agg #[.int .i64 x.kind, .string x.pattern.rel, .slice vA1 x.pattern.args.length vc1, .string x.left, .string x.right]) (by simp [results, Tryz.results106, go_sem, r0, r1, r2, r3, r4]) rfl ?_
  obtain ⟨_, _, N1, hcs1, hL1, _, nn1, mm1, ss1⟩ := G1.out.rep
  cases hcs1
  subst hL1
  exact gives_of (wr := w1) (M1) ⟨⟨vA1, vc1, M1, rfl, rfl, t0, t1, t2, nn1, mm1, ss1⟩, by have o := G1.out.own; simpa only [List.append_assoc] using o⟩ (by intro b hb; repeat rw [Below.heap_setCell _ _ _ _ (by dsimp only; omega)]) (by repeat (first | refine Below.setCell ?_ (by dsimp only; omega) _ | refine Below.alloc ?_ (by first | (simp; done) | (simp; omega) | omega) _ | exact B1.out))

theorem Tryz.infoCond : (Tryz.prog.info? 99).map (fun i => (i.zero, i.size, i.bytes)) = some (some (.agg #[.int .i64 0, .string ⟨#[]⟩, .slice none 0 0, .string ⟨#[]⟩, .string ⟨#[]⟩]), 5, 80) := by kernel_rfl
set_option maxHeartbeats 1600000 in
theorem toCondS_any (A : Option Addr) (n c : Nat) (ds : List CondD) (L : List Nat) (w : World) (hn : n = ds.length) (hz : costCondS ds ≤ 1048576) (h : Sli cCond w A ds L) :
    Calls Tryz.prog 61 #[.slice A n c] w (GivesS cCond 99 w ds) := by
  obtain ⟨i0, hi, hz0, hz1, hz2⟩ := info_parts Tryz.infoCond
  have H := Lib.hid h
  have HN := Lib.hid hn
  have hm : n ≤ 1048576 := by simp only [costCondS] at hz; omega
  have HZ := Lib.hid hz
  clear h hn hz
  go_enter Tryz.func61, Tryz.ntmps61
  go_wp2_with (at_make; refine wpList_make_full _ rfl _ _ 49 rfl w.heap.size 99 i0 _ 5 Tryz.underlying49 hi hz0 hz1 .i64 .i64 _ _ n rfl rfl rfl rfl (by rw [hz2]; omega) (by unfold maxLen; omega) (Nat.le_refl _) ?_; intro w1 hown hg)
  have hb : Below w.heap.size w w1 := (Below.refl _ _).grown hg (Nat.le_refl _) (by simp)
  have HF0 : Hid (Filling cCond 99 w n ds 0 w1) := Filling.start hown hb
  clear hown hg hb
  go_wp2
  go_loopw [4] (fun i wr => ∃ (k : Nat), k ≤ n ∧ i = .int .i64 k ∧ Hid (Filling cCond 99 w n ds k wr)) (fun i _ => n - (intOf i).toNat)
  case atStart => exact ⟨0, Nat.zero_le _, rfl, HF0⟩
  case round =>
    obtain ⟨k, hk, rfl, HF⟩ := hrel
    by_cases hlt : k < n
    · have hkl : k < ds.length := by have := HN.out; omega
      obtain ⟨b, off, cs, Lk, rfl, hbL, hLk, hrep, hc⟩ := H.out.at_ hkl
      have hbl : b < w.heap.size := H.out.lt b hbL
      have HR := Lib.hid (cCond.keep hrep (keep_below HF.out.below (fun y m => H.out.lt y (hLk y m))))
      obtain ⟨A1, c1, rfl⟩ := cCond_cells hrep
      have q0 : wr.cell? ⟨b, off + k * 5, none⟩ = _ := (HF.out.below.cell (p := ⟨b, off + (k * 5 + 0), none⟩) hbl).trans (hc 0 _ rfl)
      have q1 : wr.cell? ⟨b, off + k * 5 + 1, none⟩ = _ := (HF.out.below.cell (p := ⟨b, off + (k * 5 + 1), none⟩) hbl).trans (hc 1 _ rfl)
      have q2 : wr.cell? ⟨b, off + k * 5 + 2, none⟩ = _ := (HF.out.below.cell (p := ⟨b, off + (k * 5 + 2), none⟩) hbl).trans (hc 2 _ rfl)
      have q3 : wr.cell? ⟨b, off + k * 5 + 3, none⟩ = _ := (HF.out.below.cell (p := ⟨b, off + (k * 5 + 3), none⟩) hbl).trans (hc 3 _ rfl)
      have q4 : wr.cell? ⟨b, off + k * 5 + 4, none⟩ = _ := (HF.out.below.cell (p := ⟨b, off + (k * 5 + 4), none⟩) hbl).trans (hc 4 _ rfl)
      have hcx : Hid (costCond ds[k] ≤ 1048576) := cost_le costCond ds k hkl (by have := HZ.out; simp only [costCondS] at this; omega)
      obtain ⟨x, hx⟩ : ∃ x, x = ds[k] := ⟨_, rfl⟩
      have HX := Lib.hid hx
      rw [← hx] at HR q0 q1 q2 q3 q4 hcx
      clear hc hrep hx
      go_wp2_with fail
      refine (toCond_any _ x Lk _ hcx.out HR.out).mono ?_
      rintro e w2 ⟨cs2, M2, rfl, g2, hb2⟩
      have HF2 := Lib.hid (HF.out.later hb2)
      have HS := Lib.hid (HF.out.store hlt HN.out (fun _ => HX.out) hb2 g2)
      obtain ⟨vA1, vc1, rfl⟩ := cCond_cells g2.rep
      clear g2 hb2
      obtain ⟨d0, e0⟩ : ∃ d, w2.cell? ⟨w.heap.size, k * 5, none⟩ = some d := HF2.out.cell hlt (j := 0) (by decide)
      have z0 := HF2.out.frozen (k * 5)
      obtain ⟨d1, e1⟩ : ∃ d, w2.cell? ⟨w.heap.size, k * 5 + 1, none⟩ = some d := HF2.out.cell hlt (j := 1) (by decide)
      have z1 := HF2.out.frozen (k * 5 + 1)
      obtain ⟨d2, e2⟩ : ∃ d, w2.cell? ⟨w.heap.size, k * 5 + 2, none⟩ = some d := HF2.out.cell hlt (j := 2) (by decide)
      have z2 := HF2.out.frozen (k * 5 + 2)
      obtain ⟨d3, e3⟩ : ∃ d, w2.cell? ⟨w.heap.size, k * 5 + 3, none⟩ = some d := HF2.out.cell hlt (j := 3) (by decide)
      have z3 := HF2.out.frozen (k * 5 + 3)
      obtain ⟨d4, e4⟩ : ∃ d, w2.cell? ⟨w.heap.size, k * 5 + 4, none⟩ = some d := HF2.out.cell hlt (j := 4) (by decide)
      have z4 := HF2.out.frozen (k * 5 + 4)
      go_wp2_with fail
      go_roundw
      case rel => exact ⟨k + 1, by omega, by go_num, HS.out⟩
      case measure => simp [intOf]; omega
    · obtain rfl : k = n := by omega
      go_wp2
      go_ret
      exact ⟨_, rfl, HF.out.done HN.out⟩

set_option maxHeartbeats 1600000 in
theorem toAction_any (cs : List Value) (x : ActionD) (L : List Nat) (w : World) (hz : costAction x ≤ 1048576) (h : cAction.rep w cs x L) :
    Calls Tryz.prog 107 #[.agg cs.toArray] w (Gives cAction w x) := by
  obtain ⟨A1, c1, L1, rfl, _hL, t0, n1, m1, s1⟩ := h
  unfold maxLen at m1
  have S1 := Lib.hid s1
  clear s1
  simp only [costAction] at hz
  go_enter Tryz.func107, Tryz.ntmps107
  go_wp2_with fail
  refine (toPattern_any [.string x.pattern.rel, .slice A1 x.pattern.args.length c1] x.pattern _ _ (by omega) ⟨A1, c1, L1, rfl, rfl, t0, n1, (by unfold maxLen; omega), S1.out.below (by repeat (first | refine Below.setCell ?_ (by dsimp only; omega) _ | refine Below.alloc ?_ (by first | (simp; done) | (simp; omega) | omega) _ | exact Below.refl _ _))⟩).mono ?_
  rintro e w1 ⟨cs1, M1, rfl, g1, hb1⟩
  obtain ⟨vA1, vc1, rfl⟩ := cPattern_cells g1.rep
  have G1 := Lib.hid (g1.mono (show w.heap.size + 3 ≤ _ by simp))
  have lt1 := Lib.hid g1.lt
  clear g1
  have B1 : Hid (Below w.heap.size w w1) := Below.trans (by repeat (first | refine Below.setCell ?_ (by dsimp only; omega) _ | refine Below.alloc ?_ (by first | (simp; done) | (simp; omega) | omega) _ | exact Below.refl _ _)) (hb1.mono (by first | (simp; done) | (simp; omega) | omega))
  have K0 : Hid (Blk w1 w.heap.size 115 #[.int .i64 x.kind, .string x.pattern.rel, .slice A1 x.pattern.args.length c1]) := Blk.later (Blk.alloc (Blk.alloc (Blk.new _ _ _) _) _) hb1
  have K1 : Hid (Blk w1 (w.heap.size + 1) 62 #[.int .i64 0, .string ⟨#[]⟩, .slice none 0 0]) := Blk.later (Blk.alloc (Blk.new_at (by simp)) _) hb1
  have K2 : Hid (Blk w1 (w.heap.size + 1 + 1) 62 #[.int .i64 x.kind, .string ⟨#[]⟩, .slice none 0 0]) := Blk.later (Blk.new_at (by simp)) hb1
  have f0 := K0.out.at (i := 0) rfl
  have r0 := K1.out.at (i := 0) rfl
  have o0 := K2.out.at (i := 0) rfl
  have rz0 := K1.out.frozen 0
  have oz0 := K2.out.frozen 0
  have f1 := K0.out.at (i := 1) rfl
  have r1 := K1.out.at (i := 1) rfl
  have o1 := K2.out.at (i := 1) rfl
  have rz1 := K1.out.frozen 1
  have oz1 := K2.out.frozen 1
  have f2 := K0.out.at (i := 2) rfl
  have r2 := K1.out.at (i := 2) rfl
  have o2 := K2.out.at (i := 2) rfl
  have rz2 := K1.out.frozen 2
  have oz2 := K2.out.frozen 2
  have hz1 : w.heap.size + 2 < w1.heap.size := by have := hb1.size; simp at this; omega
  clear hb1
  go_wp2_with fail
  refine bodyPost_ret (v := .agg #[.int .i64 x.kind, .string x.pattern.rel, .slice vA1 x.pattern.args.length vc1]) (by simp [results, Tryz.results107, go_sem, r0, r1, r2]) rfl ?_
  obtain ⟨_, _, N1, hcs1, hL1, _, nn1, mm1, ss1⟩ := G1.out.rep
  cases hcs1
  subst hL1
  exact gives_of (wr := w1) (M1) ⟨⟨vA1, vc1, M1, rfl, rfl, t0, nn1, mm1, ss1⟩, by have o := G1.out.own; simpa only [List.append_assoc] using o⟩ (by intro b hb; repeat rw [Below.heap_setCell _ _ _ _ (by dsimp only; omega)]) (by repeat (first | refine Below.setCell ?_ (by dsimp only; omega) _ | refine Below.alloc ?_ (by first | (simp; done) | (simp; omega) | omega) _ | exact B1.out))

theorem Tryz.infoAction : (Tryz.prog.info? 62).map (fun i => (i.zero, i.size, i.bytes)) = some (some (.agg #[.int .i64 0, .string ⟨#[]⟩, .slice none 0 0]), 3, 48) := by kernel_rfl
set_option maxHeartbeats 1600000 in
theorem toActionS_any (A : Option Addr) (n c : Nat) (ds : List ActionD) (L : List Nat) (w : World) (hn : n = ds.length) (hz : costActionS ds ≤ 1048576) (h : Sli cAction w A ds L) :
    Calls Tryz.prog 62 #[.slice A n c] w (GivesS cAction 62 w ds) := by
  obtain ⟨i0, hi, hz0, hz1, hz2⟩ := info_parts Tryz.infoAction
  have H := Lib.hid h
  have HN := Lib.hid hn
  have hm : n ≤ 1048576 := by simp only [costActionS] at hz; omega
  have HZ := Lib.hid hz
  clear h hn hz
  go_enter Tryz.func62, Tryz.ntmps62
  go_wp2_with (at_make; refine wpList_make_full _ rfl _ _ 50 rfl w.heap.size 62 i0 _ 3 Tryz.underlying50 hi hz0 hz1 .i64 .i64 _ _ n rfl rfl rfl rfl (by rw [hz2]; omega) (by unfold maxLen; omega) (Nat.le_refl _) ?_; intro w1 hown hg)
  have hb : Below w.heap.size w w1 := (Below.refl _ _).grown hg (Nat.le_refl _) (by simp)
  have HF0 : Hid (Filling cAction 62 w n ds 0 w1) := Filling.start hown hb
  clear hown hg hb
  go_wp2
  go_loopw [4] (fun i wr => ∃ (k : Nat), k ≤ n ∧ i = .int .i64 k ∧ Hid (Filling cAction 62 w n ds k wr)) (fun i _ => n - (intOf i).toNat)
  case atStart => exact ⟨0, Nat.zero_le _, rfl, HF0⟩
  case round =>
    obtain ⟨k, hk, rfl, HF⟩ := hrel
    by_cases hlt : k < n
    · have hkl : k < ds.length := by have := HN.out; omega
      obtain ⟨b, off, cs, Lk, rfl, hbL, hLk, hrep, hc⟩ := H.out.at_ hkl
      have hbl : b < w.heap.size := H.out.lt b hbL
      have HR := Lib.hid (cAction.keep hrep (keep_below HF.out.below (fun y m => H.out.lt y (hLk y m))))
      obtain ⟨A1, c1, rfl⟩ := cAction_cells hrep
      have q0 : wr.cell? ⟨b, off + k * 3, none⟩ = _ := (HF.out.below.cell (p := ⟨b, off + (k * 3 + 0), none⟩) hbl).trans (hc 0 _ rfl)
      have q1 : wr.cell? ⟨b, off + k * 3 + 1, none⟩ = _ := (HF.out.below.cell (p := ⟨b, off + (k * 3 + 1), none⟩) hbl).trans (hc 1 _ rfl)
      have q2 : wr.cell? ⟨b, off + k * 3 + 2, none⟩ = _ := (HF.out.below.cell (p := ⟨b, off + (k * 3 + 2), none⟩) hbl).trans (hc 2 _ rfl)
      have hcx : Hid (costAction ds[k] ≤ 1048576) := cost_le costAction ds k hkl (by have := HZ.out; simp only [costActionS] at this; omega)
      obtain ⟨x, hx⟩ : ∃ x, x = ds[k] := ⟨_, rfl⟩
      have HX := Lib.hid hx
      rw [← hx] at HR q0 q1 q2 hcx
      clear hc hrep hx
      go_wp2_with fail
      refine (toAction_any _ x Lk _ hcx.out HR.out).mono ?_
      rintro e w2 ⟨cs2, M2, rfl, g2, hb2⟩
      have HF2 := Lib.hid (HF.out.later hb2)
      have HS := Lib.hid (HF.out.store hlt HN.out (fun _ => HX.out) hb2 g2)
      obtain ⟨vA1, vc1, rfl⟩ := cAction_cells g2.rep
      clear g2 hb2
      obtain ⟨d0, e0⟩ : ∃ d, w2.cell? ⟨w.heap.size, k * 3, none⟩ = some d := HF2.out.cell hlt (j := 0) (by decide)
      have z0 := HF2.out.frozen (k * 3)
      obtain ⟨d1, e1⟩ : ∃ d, w2.cell? ⟨w.heap.size, k * 3 + 1, none⟩ = some d := HF2.out.cell hlt (j := 1) (by decide)
      have z1 := HF2.out.frozen (k * 3 + 1)
      obtain ⟨d2, e2⟩ : ∃ d, w2.cell? ⟨w.heap.size, k * 3 + 2, none⟩ = some d := HF2.out.cell hlt (j := 2) (by decide)
      have z2 := HF2.out.frozen (k * 3 + 2)
      go_wp2_with fail
      go_roundw
      case rel => exact ⟨k + 1, by omega, by go_num, HS.out⟩
      case measure => simp [intOf]; omega
    · obtain rfl : k = n := by omega
      go_wp2
      go_ret
      exact ⟨_, rfl, HF.out.done HN.out⟩

set_option maxHeartbeats 1600000 in
theorem toRule_any (cs : List Value) (x : RuleD) (L : List Nat) (w : World) (hz : costRule x ≤ 1048576) (h : cRule.rep w cs x L) :
    Calls Tryz.prog 26 #[.agg cs.toArray] w (Gives cRule w x) := by
  obtain ⟨A1, c1, L1, A2, c2, L2, rfl, _hL, t0, n1, m1, s1, n2, m2, s2⟩ := h
  unfold maxLen at m1 m2
  have S1 := Lib.hid s1
  clear s1
  have S2 := Lib.hid s2
  clear s2
  simp only [costRule] at hz
  go_enter Tryz.func26, Tryz.ntmps26
  go_wp2_with fail
  refine (toCondS_any A1 _ c1 x.cond L1 _ rfl (by omega) (S1.out.below (by repeat (first | refine Below.setCell ?_ (by dsimp only; omega) _ | refine Below.alloc ?_ (by first | (simp; done) | (simp; omega) | omega) _ | exact Below.refl _ _)))).mono ?_
  rintro e w1 ⟨v1, rfl, a1⟩
  obtain ⟨vA1, vc1, rfl⟩ := a1.shape
  have hb1 := a1.below
  obtain ⟨M1, g1⟩ := a1.got
  clear a1
  have G1 := Lib.hid (g1.mono (show w.heap.size + 3 ≤ _ by simp))
  have lt1 := Lib.hid g1.lt
  clear g1
  have B1 : Hid (Below w.heap.size w w1) := Below.trans (by repeat (first | refine Below.setCell ?_ (by dsimp only; omega) _ | refine Below.alloc ?_ (by first | (simp; done) | (simp; omega) | omega) _ | exact Below.refl _ _)) (hb1.mono (by first | (simp; done) | (simp; omega) | omega))
  have K0 : Hid (Blk w1 w.heap.size 42 #[.string x.name, .int .i64 x.priority, .slice A1 x.cond.length c1, .slice A2 x.thn.length c2]) := Blk.later (Blk.alloc (Blk.alloc (Blk.new _ _ _) _) _) hb1
  have K1 : Hid (Blk w1 (w.heap.size + 1) 52 #[.string ⟨#[]⟩, .int .i64 0, .slice none 0 0, .slice none 0 0]) := Blk.later (Blk.alloc (Blk.new_at (by simp)) _) hb1
  have K2 : Hid (Blk w1 (w.heap.size + 1 + 1) 52 #[.string x.name, .int .i64 x.priority, .slice none 0 0, .slice none 0 0]) := Blk.later (Blk.new_at (by simp)) hb1
  have f0 := K0.out.at (i := 0) rfl
  have r0 := K1.out.at (i := 0) rfl
  have o0 := K2.out.at (i := 0) rfl
  have rz0 := K1.out.frozen 0
  have oz0 := K2.out.frozen 0
  have f1 := K0.out.at (i := 1) rfl
  have r1 := K1.out.at (i := 1) rfl
  have o1 := K2.out.at (i := 1) rfl
  have rz1 := K1.out.frozen 1
  have oz1 := K2.out.frozen 1
  have f2 := K0.out.at (i := 2) rfl
  have r2 := K1.out.at (i := 2) rfl
  have o2 := K2.out.at (i := 2) rfl
  have rz2 := K1.out.frozen 2
  have oz2 := K2.out.frozen 2
  have f3 := K0.out.at (i := 3) rfl
  have r3 := K1.out.at (i := 3) rfl
  have o3 := K2.out.at (i := 3) rfl
  have rz3 := K1.out.frozen 3
  have oz3 := K2.out.frozen 3
  have hz1 : w.heap.size + 2 < w1.heap.size := by have := hb1.size; simp at this; omega
  clear hb1
  go_wp2_with fail
  refine (toActionS_any A2 _ c2 x.thn L2 _ rfl (by omega) (S2.out.below (by repeat (first | refine Below.setCell ?_ (by dsimp only; omega) _ | refine Below.alloc ?_ (by first | (simp; done) | (simp; omega) | omega) _ | exact B1.out)))).mono ?_
  rintro e w2 ⟨v2, rfl, a2⟩
  obtain ⟨vA2, vc2, rfl⟩ := a2.shape
  have hb2 := a2.below
  obtain ⟨M2, g2⟩ := a2.got
  clear a2
  have G2 := Lib.hid (g2.mono (show w1.heap.size ≤ _ by simp))
  have lt2 := Lib.hid g2.lt
  clear g2
  have B2 : Hid (Below w.heap.size w w2) := Below.trans (by repeat (first | refine Below.setCell ?_ (by dsimp only; omega) _ | refine Below.alloc ?_ (by first | (simp; done) | (simp; omega) | omega) _ | exact B1.out)) (hb2.mono (by first | (simp; done) | (simp; omega) | omega))
  have G1 : Hid (Got (sliceC cCond) (w.heap.size + 3) [.slice vA1 x.cond.length vc1] x.cond M1 w2) := Got.later (by repeat (first | refine Got.setCell ?_ (by dsimp only; omega) _ | exact G1.out)) hb2
  have K0 := Lib.hid (Blk.later (Blk.far K0.out (by dsimp only; omega) _) hb2)
  have K1 := Lib.hid (Blk.later (Blk.far K1.out (by dsimp only; omega) _) hb2)
  have K2 := Lib.hid (Blk.later (Blk.set_ K2.out 2 _) hb2)
  clear f0 r0 o0 rz0 oz0 f1 r1 o1 rz1 oz1 f2 r2 o2 rz2 oz2 f3 r3 o3 rz3 oz3
  have f0 := K0.out.at (i := 0) rfl
  have r0 := K1.out.at (i := 0) rfl
  have o0 := K2.out.at (i := 0) rfl
  have rz0 := K1.out.frozen 0
  have oz0 := K2.out.frozen 0
  have f1 := K0.out.at (i := 1) rfl
  have r1 := K1.out.at (i := 1) rfl
  have o1 := K2.out.at (i := 1) rfl
  have rz1 := K1.out.frozen 1
  have oz1 := K2.out.frozen 1
  have f2 := K0.out.at (i := 2) rfl
  have r2 := K1.out.at (i := 2) rfl
  have o2 := K2.out.at (i := 2) rfl
  have rz2 := K1.out.frozen 2
  have oz2 := K2.out.frozen 2
  have f3 := K0.out.at (i := 3) rfl
  have r3 := K1.out.at (i := 3) rfl
  have o3 := K2.out.at (i := 3) rfl
  have rz3 := K1.out.frozen 3
  have oz3 := K2.out.frozen 3
  have hz2 : w.heap.size + 2 < w2.heap.size := by have := hb2.size; simp at this; omega
  have hy2 : w1.heap.size ≤ w2.heap.size := by have := hb2.size; simp at this; omega
  clear hb2
  go_wp2_with fail
  refine bodyPost_ret (v := .agg #[.string x.name, .int .i64 x.priority, .slice vA1 x.cond.length vc1, .slice vA2 x.thn.length vc2]) (by simp [results, Tryz.results26, go_sem, r0, r1, r2, r3]) rfl ?_
  obtain ⟨nn1, mm1, ss1⟩ := sliceC_out G1.out.rep
  obtain ⟨nn2, mm2, ss2⟩ := sliceC_out G2.out.rep
  exact gives_of (wr := w2) (M1 ++ M2) ⟨⟨vA1, vc1, M1, vA2, vc2, M2, rfl, rfl, t0, nn1, mm1, ss1, nn2, mm2, ss2⟩, by have o := (Own.append G1.out.own G2.out.own (by omega) lt1.out); simpa only [List.append_assoc] using o⟩ (by intro b hb; repeat rw [Below.heap_setCell _ _ _ _ (by dsimp only; omega)]) (by repeat (first | refine Below.setCell ?_ (by dsimp only; omega) _ | refine Below.alloc ?_ (by first | (simp; done) | (simp; omega) | omega) _ | exact B2.out))

theorem Tryz.infoRule : (Tryz.prog.info? 52).map (fun i => (i.zero, i.size, i.bytes)) = some (some (.agg #[.string ⟨#[]⟩, .int .i64 0, .slice none 0 0, .slice none 0 0]), 4, 72) := by kernel_rfl
set_option maxHeartbeats 1600000 in
theorem toRuleS_any (A : Option Addr) (n c : Nat) (ds : List RuleD) (L : List Nat) (w : World) (hn : n = ds.length) (hz : costRuleS ds ≤ 1048576) (h : Sli cRule w A ds L) :
    Calls Tryz.prog 8 #[.slice A n c] w (GivesS cRule 52 w ds) := by
  obtain ⟨i0, hi, hz0, hz1, hz2⟩ := info_parts Tryz.infoRule
  have H := Lib.hid h
  have HN := Lib.hid hn
  have hm : n ≤ 1048576 := by simp only [costRuleS] at hz; omega
  have HZ := Lib.hid hz
  clear h hn hz
  go_enter Tryz.func8, Tryz.ntmps8
  go_wp2_with (at_make; refine wpList_make_full _ rfl _ _ 27 rfl w.heap.size 52 i0 _ 4 Tryz.underlying27 hi hz0 hz1 .i64 .i64 _ _ n rfl rfl rfl rfl (by rw [hz2]; omega) (by unfold maxLen; omega) (Nat.le_refl _) ?_; intro w1 hown hg)
  have hb : Below w.heap.size w w1 := (Below.refl _ _).grown hg (Nat.le_refl _) (by simp)
  have HF0 : Hid (Filling cRule 52 w n ds 0 w1) := Filling.start hown hb
  clear hown hg hb
  go_wp2
  go_loopw [4] (fun i wr => ∃ (k : Nat), k ≤ n ∧ i = .int .i64 k ∧ Hid (Filling cRule 52 w n ds k wr)) (fun i _ => n - (intOf i).toNat)
  case atStart => exact ⟨0, Nat.zero_le _, rfl, HF0⟩
  case round =>
    obtain ⟨k, hk, rfl, HF⟩ := hrel
    by_cases hlt : k < n
    · have hkl : k < ds.length := by have := HN.out; omega
      obtain ⟨b, off, cs, Lk, rfl, hbL, hLk, hrep, hc⟩ := H.out.at_ hkl
      have hbl : b < w.heap.size := H.out.lt b hbL
      have HR := Lib.hid (cRule.keep hrep (keep_below HF.out.below (fun y m => H.out.lt y (hLk y m))))
      obtain ⟨A1, c1, A2, c2, rfl⟩ := cRule_cells hrep
      have q0 : wr.cell? ⟨b, off + k * 4, none⟩ = _ := (HF.out.below.cell (p := ⟨b, off + (k * 4 + 0), none⟩) hbl).trans (hc 0 _ rfl)
      have q1 : wr.cell? ⟨b, off + k * 4 + 1, none⟩ = _ := (HF.out.below.cell (p := ⟨b, off + (k * 4 + 1), none⟩) hbl).trans (hc 1 _ rfl)
      have q2 : wr.cell? ⟨b, off + k * 4 + 2, none⟩ = _ := (HF.out.below.cell (p := ⟨b, off + (k * 4 + 2), none⟩) hbl).trans (hc 2 _ rfl)
      have q3 : wr.cell? ⟨b, off + k * 4 + 3, none⟩ = _ := (HF.out.below.cell (p := ⟨b, off + (k * 4 + 3), none⟩) hbl).trans (hc 3 _ rfl)
      have hcx : Hid (costRule ds[k] ≤ 1048576) := cost_le costRule ds k hkl (by have := HZ.out; simp only [costRuleS] at this; omega)
      obtain ⟨x, hx⟩ : ∃ x, x = ds[k] := ⟨_, rfl⟩
      have HX := Lib.hid hx
      rw [← hx] at HR q0 q1 q2 q3 hcx
      clear hc hrep hx
      go_wp2_with fail
      refine (toRule_any _ x Lk _ hcx.out HR.out).mono ?_
      rintro e w2 ⟨cs2, M2, rfl, g2, hb2⟩
      have HF2 := Lib.hid (HF.out.later hb2)
      have HS := Lib.hid (HF.out.store hlt HN.out (fun _ => HX.out) hb2 g2)
      obtain ⟨vA1, vc1, vA2, vc2, rfl⟩ := cRule_cells g2.rep
      clear g2 hb2
      obtain ⟨d0, e0⟩ : ∃ d, w2.cell? ⟨w.heap.size, k * 4, none⟩ = some d := HF2.out.cell hlt (j := 0) (by decide)
      have z0 := HF2.out.frozen (k * 4)
      obtain ⟨d1, e1⟩ : ∃ d, w2.cell? ⟨w.heap.size, k * 4 + 1, none⟩ = some d := HF2.out.cell hlt (j := 1) (by decide)
      have z1 := HF2.out.frozen (k * 4 + 1)
      obtain ⟨d2, e2⟩ : ∃ d, w2.cell? ⟨w.heap.size, k * 4 + 2, none⟩ = some d := HF2.out.cell hlt (j := 2) (by decide)
      have z2 := HF2.out.frozen (k * 4 + 2)
      obtain ⟨d3, e3⟩ : ∃ d, w2.cell? ⟨w.heap.size, k * 4 + 3, none⟩ = some d := HF2.out.cell hlt (j := 3) (by decide)
      have z3 := HF2.out.frozen (k * 4 + 3)
      go_wp2_with fail
      go_roundw
      case rel => exact ⟨k + 1, by omega, by go_num, HS.out⟩
      case measure => simp [intOf]; omega
    · obtain rfl : k = n := by omega
      go_wp2
      go_ret
      exact ⟨_, rfl, HF.out.done HN.out⟩

end Go.Proofs.YtlkgkkacnoaeaaaGreatDoor

namespace Go.Proofs.YtlkgkkacnoaeaaaGreatDoor
open Go.RowKit

def TruePost (w : World) (e : Ending) (w' : World) : Prop := e = .returned (.bool true) ∧ Below w.heap.size w w'

set_option maxHeartbeats 1600000 in
theorem eqStringS_any (A B : Option Addr) (n c d : Nat) (ds : List ByteArray) (L M : List Nat) (w : World) (hn : n = ds.length) (hm : n ≤ 9223372036854775807) (h1 : Sli strC w A ds L) (h2 : Sli strC w B ds M) :
    Calls Tryz.prog 74 #[.slice A n c, .slice B n d] w (TruePost w) := by
  have H1 := Lib.hid h1
  have H2 := Lib.hid h2
  have HN := Lib.hid hn
  clear h1 h2 hn
  have hne : ((n : Int) != n) = false := by simp
  go_enter Tryz.func74, Tryz.ntmps74
  go_wp2
  go_loopw [5] (fun i wr => ∃ (k : Nat), k ≤ n ∧ i = .int .i64 k ∧ Hid (∃ q, wr = w.drewN q)) (fun i _ => n - (intOf i).toNat)
  case atStart => exact ⟨0, Nat.zero_le _, rfl, 0, rfl⟩
  case round =>
    obtain ⟨k, hk, rfl, hq⟩ := hrel
    obtain ⟨q, rfl⟩ := hq.out
    by_cases hlt : k < n
    · have hkl : k < ds.length := by have := HN.out; omega
      obtain ⟨b, off, cs, Lk, rfl, _, _, hrep, hc⟩ := H1.out.at_ hkl
      obtain ⟨b', off', cs', Mk, rfl, _, _, hrep', hc'⟩ := H2.out.at_ hkl
      generalize ds[k] = x at *
      obtain ⟨rfl, _, _⟩ := hrep
      obtain ⟨rfl, _, _⟩ := hrep'
      have q0 := hc 0 _ rfl
      have p0 := hc' 0 _ rfl
      simp only [show strC.size = 1 from rfl, Nat.mul_one, Nat.add_zero] at q0 p0
      clear hc hc'
      have k0 : (0 : Int) ≤ k := by omega
      have k1 : (k : Int) < n := by omega
      go_wp2_with fail
      go_quiet (fail)
      go_wp2_with fail
      go_roundw
      case rel => exact ⟨k + 1, by omega, by go_num, by first | exact drew_ex _ _ _ | exact drew_ex1 _ _⟩
      case measure => simp [intOf]; omega
    · go_wp2
      go_ret
      exact ⟨rfl, below_of_drewN _ _ _⟩

set_option maxHeartbeats 1600000 in
theorem eqFact_any (cs ds : List Value) (x : FactD) (L M : List Nat) (w : World) (h1 : cFact.rep w cs x L) (h2 : cFact.rep w ds x M) :
    Calls Tryz.prog 34 #[.agg cs.toArray, .agg ds.toArray] w (TruePost w) := by
  obtain ⟨aA1, ac1, aL1, rfl, _ahL, at0, an1, am1, as1⟩ := h1
  obtain ⟨bA1, bc1, bL1, rfl, _bhL, bt0, bn1, bm1, bs1⟩ := h2
  unfold maxLen at am1 bm1
  have SA1 := Lib.hid as1
  have SB1 := Lib.hid bs1
  clear as1 bs1
  go_enter Tryz.func34, Tryz.ntmps34
  go_wp2_with fail
  refine (eqStringS_any aA1 bA1 _ ac1 bc1 x.args aL1 bL1 _ rfl (by omega) (SA1.out.below (by repeat (first | refine Below.setCell ?_ (by dsimp only; omega) _ | refine Below.alloc ?_ (by first | (simp; done) | (simp; omega) | omega) _ | exact Below.refl _ _))) (SB1.out.below (by repeat (first | refine Below.setCell ?_ (by dsimp only; omega) _ | refine Below.alloc ?_ (by first | (simp; done) | (simp; omega) | omega) _ | exact Below.refl _ _)))).mono ?_
  rintro e w1 ⟨rfl, hb1⟩
  have B1 : Hid (Below w.heap.size w w1) := Below.trans (by repeat (first | refine Below.setCell ?_ (by dsimp only; omega) _ | refine Below.alloc ?_ (by first | (simp; done) | (simp; omega) | omega) _ | exact Below.refl _ _)) (hb1.mono (by first | (simp; done) | (simp; omega) | omega))
  have K0 : Hid (Blk w1 w.heap.size 57 #[.string x.rel, .slice aA1 x.args.length ac1]) := Blk.later (Blk.alloc (Blk.new _ _ _) _) hb1
  have K1 : Hid (Blk w1 (w.heap.size + 1) 57 #[.string x.rel, .slice bA1 x.args.length bc1]) := Blk.later (Blk.new_at (by simp)) hb1
  have f0 := K0.out.at (i := 0) rfl
  have r0 := K1.out.at (i := 0) rfl
  have f1 := K0.out.at (i := 1) rfl
  have r1 := K1.out.at (i := 1) rfl
  clear hb1
  have hz1 := B1.out.size
  go_wp2_with fail
  go_ret
  exact ⟨rfl, (by repeat (first | refine Below.setCell ?_ (by dsimp only; omega) _ | refine Below.alloc ?_ (by first | (simp; done) | (simp; omega) | omega) _ | exact B1.out))⟩

set_option maxRecDepth 100000 in
set_option maxHeartbeats 1600000 in
theorem eqFactS_any (A B : Option Addr) (n c d : Nat) (ds : List FactD) (L M : List Nat) (w : World) (hn : n = ds.length) (hm : n ≤ 9223372036854775807) (h1 : Sli cFact w A ds L) (h2 : Sli cFact w B ds M) :
    Calls Tryz.prog 12 #[.slice A n c, .slice B n d] w (TruePost w) := by
  have H1 := Lib.hid h1
  have H2 := Lib.hid h2
  have HN := Lib.hid hn
  clear h1 h2 hn
  have hne : ((n : Int) != n) = false := by simp
  go_enter Tryz.func12, Tryz.ntmps12
  go_wp2
  go_loopw [5] (fun i wr => ∃ (k : Nat), k ≤ n ∧ i = .int .i64 k ∧ Hid (Below w.heap.size w wr)) (fun i _ => n - (intOf i).toNat)
  case atStart => exact ⟨0, Nat.zero_le _, rfl, Below.refl _ _⟩
  case round =>
    obtain ⟨k, hk, rfl, HB⟩ := hrel
    by_cases hlt : k < n
    · have hkl : k < ds.length := by have := HN.out; omega
      obtain ⟨b, off, cs, Lk, rfl, hbL, hLk, hrep, hc⟩ := H1.out.at_ hkl
      obtain ⟨b', off', cs', Mk, rfl, hbM, hMk, hrep', hc'⟩ := H2.out.at_ hkl
      have hbl : b < w.heap.size := H1.out.lt b hbL
      have hbl' : b' < w.heap.size := H2.out.lt b' hbM
      have HR := Lib.hid (cFact.keep hrep (keep_below HB.out (fun y m => H1.out.lt y (hLk y m))))
      have HR' := Lib.hid (cFact.keep hrep' (keep_below HB.out (fun y m => H2.out.lt y (hMk y m))))
      generalize ds[k] = x at *
      obtain ⟨aA1, ac1, rfl⟩ := cFact_cells hrep
      obtain ⟨bA1, bc1, rfl⟩ := cFact_cells hrep'
      have q0 : wr.cell? ⟨b, off + k * 2, none⟩ = _ := (HB.out.cell (p := ⟨b, off + (k * 2 + 0), none⟩) hbl).trans (hc 0 _ rfl)
      have p0 : wr.cell? ⟨b', off' + k * 2, none⟩ = _ := (HB.out.cell (p := ⟨b', off' + (k * 2 + 0), none⟩) hbl').trans (hc' 0 _ rfl)
      have q1 : wr.cell? ⟨b, off + k * 2 + 1, none⟩ = _ := (HB.out.cell (p := ⟨b, off + (k * 2 + 1), none⟩) hbl).trans (hc 1 _ rfl)
      have p1 : wr.cell? ⟨b', off' + k * 2 + 1, none⟩ = _ := (HB.out.cell (p := ⟨b', off' + (k * 2 + 1), none⟩) hbl').trans (hc' 1 _ rfl)
      clear hc hc' hrep hrep'
      have k0 : (0 : Int) ≤ k := by omega
      have k1 : (k : Int) < n := by omega
      go_wp2_with fail
      go_still_tail 8, (by kernel_rfl)
      change wpList _ _ _ _ _ wr.drew
      go_wp2_with (go_at_call 34; (refine (eqFact_any _ _ x Lk Mk wr.drew (cFact.keep HR.out (fun _ _ => rfl)) (cFact.keep HR'.out (fun _ _ => rfl))).mono ?_; rintro e w1 ⟨rfl, hb1⟩; have HB1 := Lib.hid (HB.out.drew.trans (hb1.mono HB.out.size)); clear hb1))
      go_roundw
      case rel => exact ⟨k + 1, by omega, by go_num, HB1.out⟩
      case measure => simp [intOf]; omega
    · go_wp2
      go_ret
      exact ⟨rfl, HB.out⟩

set_option maxHeartbeats 1600000 in
theorem eqPattern_any (cs ds : List Value) (x : PatternD) (L M : List Nat) (w : World) (h1 : cPattern.rep w cs x L) (h2 : cPattern.rep w ds x M) :
    Calls Tryz.prog 149 #[.agg cs.toArray, .agg ds.toArray] w (TruePost w) := by
  obtain ⟨aA1, ac1, aL1, rfl, _ahL, at0, an1, am1, as1⟩ := h1
  obtain ⟨bA1, bc1, bL1, rfl, _bhL, bt0, bn1, bm1, bs1⟩ := h2
  unfold maxLen at am1 bm1
  have SA1 := Lib.hid as1
  have SB1 := Lib.hid bs1
  clear as1 bs1
  go_enter Tryz.func149, Tryz.ntmps149
  go_wp2_with fail
  refine (eqStringS_any aA1 bA1 _ ac1 bc1 x.args aL1 bL1 _ rfl (by omega) (SA1.out.below (by repeat (first | refine Below.setCell ?_ (by dsimp only; omega) _ | refine Below.alloc ?_ (by first | (simp; done) | (simp; omega) | omega) _ | exact Below.refl _ _))) (SB1.out.below (by repeat (first | refine Below.setCell ?_ (by dsimp only; omega) _ | refine Below.alloc ?_ (by first | (simp; done) | (simp; omega) | omega) _ | exact Below.refl _ _)))).mono ?_
  rintro e w1 ⟨rfl, hb1⟩
  have B1 : Hid (Below w.heap.size w w1) := Below.trans (by repeat (first | refine Below.setCell ?_ (by dsimp only; omega) _ | refine Below.alloc ?_ (by first | (simp; done) | (simp; omega) | omega) _ | exact Below.refl _ _)) (hb1.mono (by first | (simp; done) | (simp; omega) | omega))
  have K0 : Hid (Blk w1 w.heap.size 60 #[.string x.rel, .slice aA1 x.args.length ac1]) := Blk.later (Blk.alloc (Blk.new _ _ _) _) hb1
  have K1 : Hid (Blk w1 (w.heap.size + 1) 60 #[.string x.rel, .slice bA1 x.args.length bc1]) := Blk.later (Blk.new_at (by simp)) hb1
  have f0 := K0.out.at (i := 0) rfl
  have r0 := K1.out.at (i := 0) rfl
  have f1 := K0.out.at (i := 1) rfl
  have r1 := K1.out.at (i := 1) rfl
  clear hb1
  have hz1 := B1.out.size
  go_wp2_with fail
  go_ret
  exact ⟨rfl, (by repeat (first | refine Below.setCell ?_ (by dsimp only; omega) _ | refine Below.alloc ?_ (by first | (simp; done) | (simp; omega) | omega) _ | exact B1.out))⟩

set_option maxHeartbeats 1600000 in
theorem eqCond_any (cs ds : List Value) (x : CondD) (L M : List Nat) (w : World) (h1 : cCond.rep w cs x L) (h2 : cCond.rep w ds x M) :
    Calls Tryz.prog 124 #[.agg cs.toArray, .agg ds.toArray] w (TruePost w) := by
  obtain ⟨aA1, ac1, aL1, rfl, _ahL, at0, at1, at2, an1, am1, as1⟩ := h1
  obtain ⟨bA1, bc1, bL1, rfl, _bhL, bt0, bt1, bt2, bn1, bm1, bs1⟩ := h2
  unfold maxLen at am1 bm1
  have SA1 := Lib.hid as1
  have SB1 := Lib.hid bs1
  clear as1 bs1
  go_enter Tryz.func124, Tryz.ntmps124
  go_wp2_with fail
  refine (eqPattern_any [.string x.pattern.rel, .slice aA1 x.pattern.args.length ac1] [.string x.pattern.rel, .slice bA1 x.pattern.args.length bc1] x.pattern _ _ _ ⟨aA1, ac1, aL1, rfl, rfl, at0, an1, (by unfold maxLen; omega), SA1.out.below (by repeat (first | refine Below.setCell ?_ (by dsimp only; omega) _ | refine Below.alloc ?_ (by first | (simp; done) | (simp; omega) | omega) _ | exact Below.refl _ _))⟩ ⟨bA1, bc1, bL1, rfl, rfl, bt0, bn1, (by unfold maxLen; omega), SB1.out.below (by repeat (first | refine Below.setCell ?_ (by dsimp only; omega) _ | refine Below.alloc ?_ (by first | (simp; done) | (simp; omega) | omega) _ | exact Below.refl _ _))⟩).mono ?_
  rintro e w1 ⟨rfl, hb1⟩
  have B1 : Hid (Below w.heap.size w w1) := Below.trans (by repeat (first | refine Below.setCell ?_ (by dsimp only; omega) _ | refine Below.alloc ?_ (by first | (simp; done) | (simp; omega) | omega) _ | exact Below.refl _ _)) (hb1.mono (by first | (simp; done) | (simp; omega) | omega))
  have K0 : Hid (Blk w1 w.heap.size 99 #[.int .i64 x.kind, .string x.pattern.rel, .slice aA1 x.pattern.args.length ac1, .string x.left, .string x.right]) := Blk.later (Blk.alloc (Blk.new _ _ _) _) hb1
  have K1 : Hid (Blk w1 (w.heap.size + 1) 99 #[.int .i64 x.kind, .string x.pattern.rel, .slice bA1 x.pattern.args.length bc1, .string x.left, .string x.right]) := Blk.later (Blk.new_at (by simp)) hb1
  have f0 := K0.out.at (i := 0) rfl
  have r0 := K1.out.at (i := 0) rfl
  have f1 := K0.out.at (i := 1) rfl
  have r1 := K1.out.at (i := 1) rfl
  have f2 := K0.out.at (i := 2) rfl
  have r2 := K1.out.at (i := 2) rfl
  have f3 := K0.out.at (i := 3) rfl
  have r3 := K1.out.at (i := 3) rfl
  have f4 := K0.out.at (i := 4) rfl
  have r4 := K1.out.at (i := 4) rfl
  clear hb1
  have hz1 := B1.out.size
  go_wp2_with fail
  go_ret
  exact ⟨rfl, (by repeat (first | refine Below.setCell ?_ (by dsimp only; omega) _ | refine Below.alloc ?_ (by first | (simp; done) | (simp; omega) | omega) _ | exact B1.out))⟩

set_option maxRecDepth 100000 in
set_option maxHeartbeats 1600000 in
theorem eqCondS_any (A B : Option Addr) (n c d : Nat) (ds : List CondD) (L M : List Nat) (w : World) (hn : n = ds.length) (hm : n ≤ 9223372036854775807) (h1 : Sli cCond w A ds L) (h2 : Sli cCond w B ds M) :
    Calls Tryz.prog 72 #[.slice A n c, .slice B n d] w (TruePost w) := by
  have H1 := Lib.hid h1
  have H2 := Lib.hid h2
  have HN := Lib.hid hn
  clear h1 h2 hn
  have hne : ((n : Int) != n) = false := by simp
  go_enter Tryz.func72, Tryz.ntmps72
  go_wp2
  go_loopw [5] (fun i wr => ∃ (k : Nat), k ≤ n ∧ i = .int .i64 k ∧ Hid (Below w.heap.size w wr)) (fun i _ => n - (intOf i).toNat)
  case atStart => exact ⟨0, Nat.zero_le _, rfl, Below.refl _ _⟩
  case round =>
    obtain ⟨k, hk, rfl, HB⟩ := hrel
    by_cases hlt : k < n
    · have hkl : k < ds.length := by have := HN.out; omega
      obtain ⟨b, off, cs, Lk, rfl, hbL, hLk, hrep, hc⟩ := H1.out.at_ hkl
      obtain ⟨b', off', cs', Mk, rfl, hbM, hMk, hrep', hc'⟩ := H2.out.at_ hkl
      have hbl : b < w.heap.size := H1.out.lt b hbL
      have hbl' : b' < w.heap.size := H2.out.lt b' hbM
      have HR := Lib.hid (cCond.keep hrep (keep_below HB.out (fun y m => H1.out.lt y (hLk y m))))
      have HR' := Lib.hid (cCond.keep hrep' (keep_below HB.out (fun y m => H2.out.lt y (hMk y m))))
      generalize ds[k] = x at *
      obtain ⟨aA1, ac1, rfl⟩ := cCond_cells hrep
      obtain ⟨bA1, bc1, rfl⟩ := cCond_cells hrep'
      have q0 : wr.cell? ⟨b, off + k * 5, none⟩ = _ := (HB.out.cell (p := ⟨b, off + (k * 5 + 0), none⟩) hbl).trans (hc 0 _ rfl)
      have p0 : wr.cell? ⟨b', off' + k * 5, none⟩ = _ := (HB.out.cell (p := ⟨b', off' + (k * 5 + 0), none⟩) hbl').trans (hc' 0 _ rfl)
      have q1 : wr.cell? ⟨b, off + k * 5 + 1, none⟩ = _ := (HB.out.cell (p := ⟨b, off + (k * 5 + 1), none⟩) hbl).trans (hc 1 _ rfl)
      have p1 : wr.cell? ⟨b', off' + k * 5 + 1, none⟩ = _ := (HB.out.cell (p := ⟨b', off' + (k * 5 + 1), none⟩) hbl').trans (hc' 1 _ rfl)
      have q2 : wr.cell? ⟨b, off + k * 5 + 2, none⟩ = _ := (HB.out.cell (p := ⟨b, off + (k * 5 + 2), none⟩) hbl).trans (hc 2 _ rfl)
      have p2 : wr.cell? ⟨b', off' + k * 5 + 2, none⟩ = _ := (HB.out.cell (p := ⟨b', off' + (k * 5 + 2), none⟩) hbl').trans (hc' 2 _ rfl)
      have q3 : wr.cell? ⟨b, off + k * 5 + 3, none⟩ = _ := (HB.out.cell (p := ⟨b, off + (k * 5 + 3), none⟩) hbl).trans (hc 3 _ rfl)
      have p3 : wr.cell? ⟨b', off' + k * 5 + 3, none⟩ = _ := (HB.out.cell (p := ⟨b', off' + (k * 5 + 3), none⟩) hbl').trans (hc' 3 _ rfl)
      have q4 : wr.cell? ⟨b, off + k * 5 + 4, none⟩ = _ := (HB.out.cell (p := ⟨b, off + (k * 5 + 4), none⟩) hbl).trans (hc 4 _ rfl)
      have p4 : wr.cell? ⟨b', off' + k * 5 + 4, none⟩ = _ := (HB.out.cell (p := ⟨b', off' + (k * 5 + 4), none⟩) hbl').trans (hc' 4 _ rfl)
      clear hc hc' hrep hrep'
      have k0 : (0 : Int) ≤ k := by omega
      have k1 : (k : Int) < n := by omega
      go_wp2_with fail
      go_still_tail 8, (by kernel_rfl)
      change wpList _ _ _ _ _ wr.drew
      go_wp2_with (go_at_call 124; (refine (eqCond_any _ _ x Lk Mk wr.drew (cCond.keep HR.out (fun _ _ => rfl)) (cCond.keep HR'.out (fun _ _ => rfl))).mono ?_; rintro e w1 ⟨rfl, hb1⟩; have HB1 := Lib.hid (HB.out.drew.trans (hb1.mono HB.out.size)); clear hb1))
      go_roundw
      case rel => exact ⟨k + 1, by omega, by go_num, HB1.out⟩
      case measure => simp [intOf]; omega
    · go_wp2
      go_ret
      exact ⟨rfl, HB.out⟩

set_option maxHeartbeats 1600000 in
theorem eqAction_any (cs ds : List Value) (x : ActionD) (L M : List Nat) (w : World) (h1 : cAction.rep w cs x L) (h2 : cAction.rep w ds x M) :
    Calls Tryz.prog 125 #[.agg cs.toArray, .agg ds.toArray] w (TruePost w) := by
  obtain ⟨aA1, ac1, aL1, rfl, _ahL, at0, an1, am1, as1⟩ := h1
  obtain ⟨bA1, bc1, bL1, rfl, _bhL, bt0, bn1, bm1, bs1⟩ := h2
  unfold maxLen at am1 bm1
  have SA1 := Lib.hid as1
  have SB1 := Lib.hid bs1
  clear as1 bs1
  go_enter Tryz.func125, Tryz.ntmps125
  go_wp2_with fail
  refine (eqPattern_any [.string x.pattern.rel, .slice aA1 x.pattern.args.length ac1] [.string x.pattern.rel, .slice bA1 x.pattern.args.length bc1] x.pattern _ _ _ ⟨aA1, ac1, aL1, rfl, rfl, at0, an1, (by unfold maxLen; omega), SA1.out.below (by repeat (first | refine Below.setCell ?_ (by dsimp only; omega) _ | refine Below.alloc ?_ (by first | (simp; done) | (simp; omega) | omega) _ | exact Below.refl _ _))⟩ ⟨bA1, bc1, bL1, rfl, rfl, bt0, bn1, (by unfold maxLen; omega), SB1.out.below (by repeat (first | refine Below.setCell ?_ (by dsimp only; omega) _ | refine Below.alloc ?_ (by first | (simp; done) | (simp; omega) | omega) _ | exact Below.refl _ _))⟩).mono ?_
  rintro e w1 ⟨rfl, hb1⟩
  have B1 : Hid (Below w.heap.size w w1) := Below.trans (by repeat (first | refine Below.setCell ?_ (by dsimp only; omega) _ | refine Below.alloc ?_ (by first | (simp; done) | (simp; omega) | omega) _ | exact Below.refl _ _)) (hb1.mono (by first | (simp; done) | (simp; omega) | omega))
  have K0 : Hid (Blk w1 w.heap.size 62 #[.int .i64 x.kind, .string x.pattern.rel, .slice aA1 x.pattern.args.length ac1]) := Blk.later (Blk.alloc (Blk.new _ _ _) _) hb1
  have K1 : Hid (Blk w1 (w.heap.size + 1) 62 #[.int .i64 x.kind, .string x.pattern.rel, .slice bA1 x.pattern.args.length bc1]) := Blk.later (Blk.new_at (by simp)) hb1
  have f0 := K0.out.at (i := 0) rfl
  have r0 := K1.out.at (i := 0) rfl
  have f1 := K0.out.at (i := 1) rfl
  have r1 := K1.out.at (i := 1) rfl
  have f2 := K0.out.at (i := 2) rfl
  have r2 := K1.out.at (i := 2) rfl
  clear hb1
  have hz1 := B1.out.size
  go_wp2_with fail
  go_ret
  exact ⟨rfl, (by repeat (first | refine Below.setCell ?_ (by dsimp only; omega) _ | refine Below.alloc ?_ (by first | (simp; done) | (simp; omega) | omega) _ | exact B1.out))⟩

set_option maxRecDepth 100000 in
set_option maxHeartbeats 1600000 in
theorem eqActionS_any (A B : Option Addr) (n c d : Nat) (ds : List ActionD) (L M : List Nat) (w : World) (hn : n = ds.length) (hm : n ≤ 9223372036854775807) (h1 : Sli cAction w A ds L) (h2 : Sli cAction w B ds M) :
    Calls Tryz.prog 73 #[.slice A n c, .slice B n d] w (TruePost w) := by
  have H1 := Lib.hid h1
  have H2 := Lib.hid h2
  have HN := Lib.hid hn
  clear h1 h2 hn
  have hne : ((n : Int) != n) = false := by simp
  go_enter Tryz.func73, Tryz.ntmps73
  go_wp2
  go_loopw [5] (fun i wr => ∃ (k : Nat), k ≤ n ∧ i = .int .i64 k ∧ Hid (Below w.heap.size w wr)) (fun i _ => n - (intOf i).toNat)
  case atStart => exact ⟨0, Nat.zero_le _, rfl, Below.refl _ _⟩
  case round =>
    obtain ⟨k, hk, rfl, HB⟩ := hrel
    by_cases hlt : k < n
    · have hkl : k < ds.length := by have := HN.out; omega
      obtain ⟨b, off, cs, Lk, rfl, hbL, hLk, hrep, hc⟩ := H1.out.at_ hkl
      obtain ⟨b', off', cs', Mk, rfl, hbM, hMk, hrep', hc'⟩ := H2.out.at_ hkl
      have hbl : b < w.heap.size := H1.out.lt b hbL
      have hbl' : b' < w.heap.size := H2.out.lt b' hbM
      have HR := Lib.hid (cAction.keep hrep (keep_below HB.out (fun y m => H1.out.lt y (hLk y m))))
      have HR' := Lib.hid (cAction.keep hrep' (keep_below HB.out (fun y m => H2.out.lt y (hMk y m))))
      generalize ds[k] = x at *
      obtain ⟨aA1, ac1, rfl⟩ := cAction_cells hrep
      obtain ⟨bA1, bc1, rfl⟩ := cAction_cells hrep'
      have q0 : wr.cell? ⟨b, off + k * 3, none⟩ = _ := (HB.out.cell (p := ⟨b, off + (k * 3 + 0), none⟩) hbl).trans (hc 0 _ rfl)
      have p0 : wr.cell? ⟨b', off' + k * 3, none⟩ = _ := (HB.out.cell (p := ⟨b', off' + (k * 3 + 0), none⟩) hbl').trans (hc' 0 _ rfl)
      have q1 : wr.cell? ⟨b, off + k * 3 + 1, none⟩ = _ := (HB.out.cell (p := ⟨b, off + (k * 3 + 1), none⟩) hbl).trans (hc 1 _ rfl)
      have p1 : wr.cell? ⟨b', off' + k * 3 + 1, none⟩ = _ := (HB.out.cell (p := ⟨b', off' + (k * 3 + 1), none⟩) hbl').trans (hc' 1 _ rfl)
      have q2 : wr.cell? ⟨b, off + k * 3 + 2, none⟩ = _ := (HB.out.cell (p := ⟨b, off + (k * 3 + 2), none⟩) hbl).trans (hc 2 _ rfl)
      have p2 : wr.cell? ⟨b', off' + k * 3 + 2, none⟩ = _ := (HB.out.cell (p := ⟨b', off' + (k * 3 + 2), none⟩) hbl').trans (hc' 2 _ rfl)
      clear hc hc' hrep hrep'
      have k0 : (0 : Int) ≤ k := by omega
      have k1 : (k : Int) < n := by omega
      go_wp2_with fail
      go_still_tail 8, (by kernel_rfl)
      change wpList _ _ _ _ _ wr.drew
      go_wp2_with (go_at_call 125; (refine (eqAction_any _ _ x Lk Mk wr.drew (cAction.keep HR.out (fun _ _ => rfl)) (cAction.keep HR'.out (fun _ _ => rfl))).mono ?_; rintro e w1 ⟨rfl, hb1⟩; have HB1 := Lib.hid (HB.out.drew.trans (hb1.mono HB.out.size)); clear hb1))
      go_roundw
      case rel => exact ⟨k + 1, by omega, by go_num, HB1.out⟩
      case measure => simp [intOf]; omega
    · go_wp2
      go_ret
      exact ⟨rfl, HB.out⟩

set_option maxHeartbeats 1600000 in
theorem eqRule_any (cs ds : List Value) (x : RuleD) (L M : List Nat) (w : World) (h1 : cRule.rep w cs x L) (h2 : cRule.rep w ds x M) :
    Calls Tryz.prog 33 #[.agg cs.toArray, .agg ds.toArray] w (TruePost w) := by
  obtain ⟨aA1, ac1, aL1, aA2, ac2, aL2, rfl, _ahL, at0, an1, am1, as1, an2, am2, as2⟩ := h1
  obtain ⟨bA1, bc1, bL1, bA2, bc2, bL2, rfl, _bhL, bt0, bn1, bm1, bs1, bn2, bm2, bs2⟩ := h2
  unfold maxLen at am1 bm1 am2 bm2
  have SA1 := Lib.hid as1
  have SB1 := Lib.hid bs1
  clear as1 bs1
  have SA2 := Lib.hid as2
  have SB2 := Lib.hid bs2
  clear as2 bs2
  go_enter Tryz.func33, Tryz.ntmps33
  go_wp2_with fail
  refine (eqCondS_any aA1 bA1 _ ac1 bc1 x.cond aL1 bL1 _ rfl (by omega) (SA1.out.below (by repeat (first | refine Below.setCell ?_ (by dsimp only; omega) _ | refine Below.alloc ?_ (by first | (simp; done) | (simp; omega) | omega) _ | exact Below.refl _ _))) (SB1.out.below (by repeat (first | refine Below.setCell ?_ (by dsimp only; omega) _ | refine Below.alloc ?_ (by first | (simp; done) | (simp; omega) | omega) _ | exact Below.refl _ _)))).mono ?_
  rintro e w1 ⟨rfl, hb1⟩
  have B1 : Hid (Below w.heap.size w w1) := Below.trans (by repeat (first | refine Below.setCell ?_ (by dsimp only; omega) _ | refine Below.alloc ?_ (by first | (simp; done) | (simp; omega) | omega) _ | exact Below.refl _ _)) (hb1.mono (by first | (simp; done) | (simp; omega) | omega))
  have K0 : Hid (Blk w1 w.heap.size 52 #[.string x.name, .int .i64 x.priority, .slice aA1 x.cond.length ac1, .slice aA2 x.thn.length ac2]) := Blk.later (Blk.alloc (Blk.new _ _ _) _) hb1
  have K1 : Hid (Blk w1 (w.heap.size + 1) 52 #[.string x.name, .int .i64 x.priority, .slice bA1 x.cond.length bc1, .slice bA2 x.thn.length bc2]) := Blk.later (Blk.new_at (by simp)) hb1
  have f0 := K0.out.at (i := 0) rfl
  have r0 := K1.out.at (i := 0) rfl
  have f1 := K0.out.at (i := 1) rfl
  have r1 := K1.out.at (i := 1) rfl
  have f2 := K0.out.at (i := 2) rfl
  have r2 := K1.out.at (i := 2) rfl
  have f3 := K0.out.at (i := 3) rfl
  have r3 := K1.out.at (i := 3) rfl
  clear hb1
  have hz1 := B1.out.size
  go_wp2_with fail
  refine (eqActionS_any aA2 bA2 _ ac2 bc2 x.thn aL2 bL2 _ rfl (by omega) (SA2.out.below (by repeat (first | refine Below.setCell ?_ (by dsimp only; omega) _ | refine Below.alloc ?_ (by first | (simp; done) | (simp; omega) | omega) _ | exact B1.out))) (SB2.out.below (by repeat (first | refine Below.setCell ?_ (by dsimp only; omega) _ | refine Below.alloc ?_ (by first | (simp; done) | (simp; omega) | omega) _ | exact B1.out)))).mono ?_
  rintro e w2 ⟨rfl, hb2⟩
  have B2 : Hid (Below w.heap.size w w2) := Below.trans (by repeat (first | refine Below.setCell ?_ (by dsimp only; omega) _ | refine Below.alloc ?_ (by first | (simp; done) | (simp; omega) | omega) _ | exact B1.out)) (hb2.mono (by first | (simp; done) | (simp; omega) | omega))
  have K0 := Lib.hid (K0.out.later hb2)
  have K1 := Lib.hid (K1.out.later hb2)
  clear f0 r0 f1 r1 f2 r2 f3 r3
  have f0 := K0.out.at (i := 0) rfl
  have r0 := K1.out.at (i := 0) rfl
  have f1 := K0.out.at (i := 1) rfl
  have r1 := K1.out.at (i := 1) rfl
  have f2 := K0.out.at (i := 2) rfl
  have r2 := K1.out.at (i := 2) rfl
  have f3 := K0.out.at (i := 3) rfl
  have r3 := K1.out.at (i := 3) rfl
  clear hb2
  have hz2 := B2.out.size
  go_wp2_with fail
  go_ret
  exact ⟨rfl, (by repeat (first | refine Below.setCell ?_ (by dsimp only; omega) _ | refine Below.alloc ?_ (by first | (simp; done) | (simp; omega) | omega) _ | exact B2.out))⟩

set_option maxRecDepth 100000 in
set_option maxHeartbeats 1600000 in
theorem eqRuleS_any (A B : Option Addr) (n c d : Nat) (ds : List RuleD) (L M : List Nat) (w : World) (hn : n = ds.length) (hm : n ≤ 9223372036854775807) (h1 : Sli cRule w A ds L) (h2 : Sli cRule w B ds M) :
    Calls Tryz.prog 11 #[.slice A n c, .slice B n d] w (TruePost w) := by
  have H1 := Lib.hid h1
  have H2 := Lib.hid h2
  have HN := Lib.hid hn
  clear h1 h2 hn
  have hne : ((n : Int) != n) = false := by simp
  go_enter Tryz.func11, Tryz.ntmps11
  go_wp2
  go_loopw [5] (fun i wr => ∃ (k : Nat), k ≤ n ∧ i = .int .i64 k ∧ Hid (Below w.heap.size w wr)) (fun i _ => n - (intOf i).toNat)
  case atStart => exact ⟨0, Nat.zero_le _, rfl, Below.refl _ _⟩
  case round =>
    obtain ⟨k, hk, rfl, HB⟩ := hrel
    by_cases hlt : k < n
    · have hkl : k < ds.length := by have := HN.out; omega
      obtain ⟨b, off, cs, Lk, rfl, hbL, hLk, hrep, hc⟩ := H1.out.at_ hkl
      obtain ⟨b', off', cs', Mk, rfl, hbM, hMk, hrep', hc'⟩ := H2.out.at_ hkl
      have hbl : b < w.heap.size := H1.out.lt b hbL
      have hbl' : b' < w.heap.size := H2.out.lt b' hbM
      have HR := Lib.hid (cRule.keep hrep (keep_below HB.out (fun y m => H1.out.lt y (hLk y m))))
      have HR' := Lib.hid (cRule.keep hrep' (keep_below HB.out (fun y m => H2.out.lt y (hMk y m))))
      generalize ds[k] = x at *
      obtain ⟨aA1, ac1, aA2, ac2, rfl⟩ := cRule_cells hrep
      obtain ⟨bA1, bc1, bA2, bc2, rfl⟩ := cRule_cells hrep'
      have q0 : wr.cell? ⟨b, off + k * 4, none⟩ = _ := (HB.out.cell (p := ⟨b, off + (k * 4 + 0), none⟩) hbl).trans (hc 0 _ rfl)
      have p0 : wr.cell? ⟨b', off' + k * 4, none⟩ = _ := (HB.out.cell (p := ⟨b', off' + (k * 4 + 0), none⟩) hbl').trans (hc' 0 _ rfl)
      have q1 : wr.cell? ⟨b, off + k * 4 + 1, none⟩ = _ := (HB.out.cell (p := ⟨b, off + (k * 4 + 1), none⟩) hbl).trans (hc 1 _ rfl)
      have p1 : wr.cell? ⟨b', off' + k * 4 + 1, none⟩ = _ := (HB.out.cell (p := ⟨b', off' + (k * 4 + 1), none⟩) hbl').trans (hc' 1 _ rfl)
      have q2 : wr.cell? ⟨b, off + k * 4 + 2, none⟩ = _ := (HB.out.cell (p := ⟨b, off + (k * 4 + 2), none⟩) hbl).trans (hc 2 _ rfl)
      have p2 : wr.cell? ⟨b', off' + k * 4 + 2, none⟩ = _ := (HB.out.cell (p := ⟨b', off' + (k * 4 + 2), none⟩) hbl').trans (hc' 2 _ rfl)
      have q3 : wr.cell? ⟨b, off + k * 4 + 3, none⟩ = _ := (HB.out.cell (p := ⟨b, off + (k * 4 + 3), none⟩) hbl).trans (hc 3 _ rfl)
      have p3 : wr.cell? ⟨b', off' + k * 4 + 3, none⟩ = _ := (HB.out.cell (p := ⟨b', off' + (k * 4 + 3), none⟩) hbl').trans (hc' 3 _ rfl)
      clear hc hc' hrep hrep'
      have k0 : (0 : Int) ≤ k := by omega
      have k1 : (k : Int) < n := by omega
      go_wp2_with fail
      go_still_tail 8, (by kernel_rfl)
      change wpList _ _ _ _ _ wr.drew
      go_wp2_with (go_at_call 33; (refine (eqRule_any _ _ x Lk Mk wr.drew (cRule.keep HR.out (fun _ _ => rfl)) (cRule.keep HR'.out (fun _ _ => rfl))).mono ?_; rintro e w1 ⟨rfl, hb1⟩; have HB1 := Lib.hid (HB.out.drew.trans (hb1.mono HB.out.size)); clear hb1))
      go_roundw
      case rel => exact ⟨k + 1, by omega, by go_num, HB1.out⟩
      case measure => simp [intOf]; omega
    · go_wp2
      go_ret
      exact ⟨rfl, HB.out⟩

end Go.Proofs.YtlkgkkacnoaeaaaGreatDoor

namespace Go.Proofs.YtlkgkkacnoaeaaaGreatDoor
open Go.RowKit

/-- the digits of a number ahead of a text -/
def mDig : Nat → Nat → List UInt8 → List UInt8
  | 0, _, acc => acc
  | f + 1, k, acc => if k = 0 then acc else mDig f (k / 10) ((48 + UInt8.ofNat (k % 10)) :: acc)
def mText (k : Nat) : ByteArray := ⟨(109 :: mDig (k + 1) k []).toArray⟩

/-- 'string([]byte{b})' -/
theorem run_byte_string (W : World) (z : Int) : (convert 108 9 (.slice (some ⟨W.heap.size, 0, none⟩) 1 1)).run Tryz.prog (W.alloc (.cells #[.int .u8 z] 5)) = .ok (.string ⟨#[UInt8.ofNat z.toNat]⟩) (W.alloc (.cells #[.int .u8 z] 5)) := by
  rw [run_convert_bytes_string _ _ _ _ _ _ _ Tryz.underlying108 Tryz.underlying5 Tryz.underlying9, run_bytesToString _ _ _ _ [z] (by simp [loadCells, go_sem])]
  rfl

set_option maxHeartbeats 800000 in
set_option maxRecDepth 100000 in
theorem markText_any (k : Nat) (w : World) (h0 : 1 ≤ k) (h1 : k ≤ 4611686018427387904) :
    Calls Tryz.prog 45 #[.int .i64 k] w fun e w' => e = .returned (.string (mText k)) ∧ Below w.heap.size w w' := by
  have hle : ¬ ((k : Int) ≤ 0) := by omega
  have kc := run_byte_string
  go_enter Tryz.func45, Tryz.ntmps45
  go_wp2
  go_loopw [0, 3] (fun i s wr => ∃ (f q : Nat) (acc : List UInt8), i = .int .i64 q ∧ s = .string ⟨acc.toArray⟩ ∧ q ≤ k ∧ q < f ∧ acc.length + q ≤ k ∧ Hid (mDig f q acc = mDig (k + 1) k []) ∧ Hid (Below w.heap.size w wr)) (fun i _ _ => (intOf i).toNat)
  case atStart => exact ⟨k + 1, k, [], rfl, rfl, Nat.le_refl _, by omega, by simp, Lib.hid rfl, Below.refl _ _⟩
  case round =>
    obtain ⟨f, q, acc, rfl, rfl, hqk, hqf, hal, HE, HB⟩ := hrel
    by_cases hq : 0 < q
    · have hq' : (0 : Int) < q := by omega
      have HEn : Hid (mDig (f - 1) (q / 10) ((48 + UInt8.ofNat (q % 10)) :: acc) = mDig (k + 1) k []) := by
        rw [Hid, ← HE.out]
        obtain ⟨f, rfl⟩ : ∃ g, f = g + 1 := ⟨f - 1, by omega⟩
        rw [mDig, if_neg (by omega)]; rfl
      go_wp2
      go_roundw
      case rel => exact ⟨f - 1, q / 10, _, by go_num, congrArg Value.string (by rw [ByteArray.mk_append_mk]; simp), by omega, by omega, by simp only [List.length_cons]; omega, HEn, HB.out.alloc HB.out.size _⟩
      case measure => simp [intOf]; omega
    · obtain rfl : q = 0 := by omega
      have e : Hid (mDig (k + 1) k [] = acc) := by
        rw [Hid, ← HE.out]
        obtain ⟨f, rfl⟩ : ∃ g, f = g + 1 := ⟨f - 1, by omega⟩
        simp [mDig]
      have hq' : ¬ (0 : Int) < (0 : Nat) := by omega
      go_wp2
      go_ret
      exact ⟨congrArg (fun s => Ending.returned (.string s)) (by rw [mText, e.out, ByteArray.mk_append_mk]; simp), HB.out⟩
theorem mDig_len : ∀ (f k : Nat) (acc : List UInt8), (mDig f k acc).length ≤ acc.length + f
  | 0, _, acc => by simp [mDig]
  | f + 1, k, acc => by
    rw [mDig]
    split
    · omega
    · have := mDig_len f (k / 10) ((48 + UInt8.ofNat (k % 10)) :: acc)
      simp at this; omega
theorem mText_size (k : Nat) (h : k ≤ 4611686018427387904) : (mText k).size ≤ 9223372036854775807 := by
  have := mDig_len (k + 1) k []
  simp [mText, ByteArray.size] at this ⊢
  omega

end Go.Proofs.YtlkgkkacnoaeaaaGreatDoor

namespace Go.Proofs.YtlkgkkacnoaeaaaGreatDoor
open Go.RowKit

def mTx (k : Int) : ByteArray := mText k.toNat
theorem markText_int (k : Int) (w : World) (h0 : 1 ≤ k) (h1 : k ≤ 4611686018427387904) :
    Calls Tryz.prog 45 #[.int .i64 k] w fun e w' => e = .returned (.string (mTx k)) ∧ Below w.heap.size w w' := by
  obtain ⟨n, rfl⟩ := Int.eq_ofNat_of_zero_le (show 0 ≤ k by omega)
  exact markText_any n w (by omega) (by omega)
theorem mTx_size (k : Int) (h : k ≤ 4611686018427387904) : (mTx k).size ≤ 9223372036854775807 := mText_size _ (by omega)
def mkStringS : Int → List ByteArray → List ByteArray
  | _, [] => []
  | k, _ :: r => mTx k :: mkStringS (k + 1) r
def nextStringS (k : Int) (l : List ByteArray) : Int := k + l.length
theorem mkStringS_len (k : Int) (l : List ByteArray) : (mkStringS k l).length = l.length := by induction l generalizing k with | nil => rfl | cons x r ih => simp [mkStringS, ih]
theorem nextStringS_ge (k : Int) (l : List ByteArray) : k ≤ nextStringS k l := by unfold nextStringS; omega
theorem nextStringS_le (k : Int) (l : List ByteArray) : nextStringS k l ≤ k + 16 * costStrs l := by unfold nextStringS costStrs; omega
def mkFact (k : Int) (x : FactD) : FactD := ⟨mTx (k), mkStringS (k + 1) x.args⟩
def nextFact (k : Int) (x : FactD) : Int := nextStringS (k + 1) x.args
def mkFactS : Int → List FactD → List FactD
  | _, [] => []
  | k, x :: r => mkFact k x :: mkFactS (nextFact k x) r
def nextFactS : Int → List FactD → Int
  | k, [] => k
  | k, x :: r => nextFactS (nextFact k x) r
theorem mkFactS_len (k : Int) (l : List FactD) : (mkFactS k l).length = l.length := by induction l generalizing k with | nil => rfl | cons x r ih => simp [mkFactS, ih]
theorem nextFact_ge (k : Int) (x : FactD) : k ≤ nextFact k x := by
  unfold nextFact
  have := nextStringS_ge (k + 1) x.args
  omega
theorem nextFactS_ge (k : Int) (l : List FactD) : k ≤ nextFactS k l := by
  induction l generalizing k with
  | nil => exact Int.le_refl _
  | cons x r ih => exact Int.le_trans (nextFact_ge k x) (ih _)
theorem nextFact_le (k : Int) (x : FactD) : nextFact k x ≤ k + 1 + 16 * costFact x := by
  unfold nextFact
  have := nextStringS_le (k + 1) x.args
  simp only [costFact]
  omega
theorem nextFactS_le (k : Int) (l : List FactD) : nextFactS k l ≤ k + 16 * costFactS l := by
  induction l generalizing k with
  | nil => simp [nextFactS, costFactS]
  | cons x r ih =>
    have h1 := nextFact_le k x
    have h2 := ih (nextFact k x)
    simp only [nextFactS, costFactS, List.length_cons, List.map_cons, List.sum_cons] at h2 ⊢
    omega

def mkCond (k : Int) (x : CondD) : CondD := ⟨(k), ⟨mTx (k + 1), mkStringS (k + 1 + 1) x.pattern.args⟩, mTx (nextStringS (k + 1 + 1) x.pattern.args), mTx (nextStringS (k + 1 + 1) x.pattern.args + 1)⟩
def nextCond (k : Int) (x : CondD) : Int := nextStringS (k + 1 + 1) x.pattern.args + 1 + 1
def mkCondS : Int → List CondD → List CondD
  | _, [] => []
  | k, x :: r => mkCond k x :: mkCondS (nextCond k x) r
def nextCondS : Int → List CondD → Int
  | k, [] => k
  | k, x :: r => nextCondS (nextCond k x) r
theorem mkCondS_len (k : Int) (l : List CondD) : (mkCondS k l).length = l.length := by induction l generalizing k with | nil => rfl | cons x r ih => simp [mkCondS, ih]
theorem nextCond_ge (k : Int) (x : CondD) : k ≤ nextCond k x := by
  unfold nextCond
  have := nextStringS_ge (k + 1 + 1) x.pattern.args
  omega
theorem nextCondS_ge (k : Int) (l : List CondD) : k ≤ nextCondS k l := by
  induction l generalizing k with
  | nil => exact Int.le_refl _
  | cons x r ih => exact Int.le_trans (nextCond_ge k x) (ih _)
theorem nextCond_le (k : Int) (x : CondD) : nextCond k x ≤ k + 4 + 16 * costCond x := by
  unfold nextCond
  have := nextStringS_le (k + 1 + 1) x.pattern.args
  simp only [costCond, costPattern]
  omega
theorem nextCondS_le (k : Int) (l : List CondD) : nextCondS k l ≤ k + 16 * costCondS l := by
  induction l generalizing k with
  | nil => simp [nextCondS, costCondS]
  | cons x r ih =>
    have h1 := nextCond_le k x
    have h2 := ih (nextCond k x)
    simp only [nextCondS, costCondS, List.length_cons, List.map_cons, List.sum_cons] at h2 ⊢
    omega

def mkAction (k : Int) (x : ActionD) : ActionD := ⟨(k), ⟨mTx (k + 1), mkStringS (k + 1 + 1) x.pattern.args⟩⟩
def nextAction (k : Int) (x : ActionD) : Int := nextStringS (k + 1 + 1) x.pattern.args
def mkActionS : Int → List ActionD → List ActionD
  | _, [] => []
  | k, x :: r => mkAction k x :: mkActionS (nextAction k x) r
def nextActionS : Int → List ActionD → Int
  | k, [] => k
  | k, x :: r => nextActionS (nextAction k x) r
theorem mkActionS_len (k : Int) (l : List ActionD) : (mkActionS k l).length = l.length := by induction l generalizing k with | nil => rfl | cons x r ih => simp [mkActionS, ih]
theorem nextAction_ge (k : Int) (x : ActionD) : k ≤ nextAction k x := by
  unfold nextAction
  have := nextStringS_ge (k + 1 + 1) x.pattern.args
  omega
theorem nextActionS_ge (k : Int) (l : List ActionD) : k ≤ nextActionS k l := by
  induction l generalizing k with
  | nil => exact Int.le_refl _
  | cons x r ih => exact Int.le_trans (nextAction_ge k x) (ih _)
theorem nextAction_le (k : Int) (x : ActionD) : nextAction k x ≤ k + 2 + 16 * costAction x := by
  unfold nextAction
  have := nextStringS_le (k + 1 + 1) x.pattern.args
  simp only [costAction, costPattern]
  omega
theorem nextActionS_le (k : Int) (l : List ActionD) : nextActionS k l ≤ k + 16 * costActionS l := by
  induction l generalizing k with
  | nil => simp [nextActionS, costActionS]
  | cons x r ih =>
    have h1 := nextAction_le k x
    have h2 := ih (nextAction k x)
    simp only [nextActionS, costActionS, List.length_cons, List.map_cons, List.sum_cons] at h2 ⊢
    omega

def mkRule (k : Int) (x : RuleD) : RuleD := ⟨mTx (k), (k + 1), mkCondS (k + 1 + 1) x.cond, mkActionS (nextCondS (k + 1 + 1) x.cond) x.thn⟩
def nextRule (k : Int) (x : RuleD) : Int := nextActionS (nextCondS (k + 1 + 1) x.cond) x.thn
def mkRuleS : Int → List RuleD → List RuleD
  | _, [] => []
  | k, x :: r => mkRule k x :: mkRuleS (nextRule k x) r
def nextRuleS : Int → List RuleD → Int
  | k, [] => k
  | k, x :: r => nextRuleS (nextRule k x) r
theorem nextRule_ge (k : Int) (x : RuleD) : k ≤ nextRule k x := by
  unfold nextRule
  have := nextCondS_ge (k + 1 + 1) x.cond
  have := nextActionS_ge (nextCondS (k + 1 + 1) x.cond) x.thn
  omega
theorem nextRuleS_ge (k : Int) (l : List RuleD) : k ≤ nextRuleS k l := by
  induction l generalizing k with
  | nil => exact Int.le_refl _
  | cons x r ih => exact Int.le_trans (nextRule_ge k x) (ih _)
theorem nextRule_le (k : Int) (x : RuleD) : nextRule k x ≤ k + 2 + 16 * costRule x := by
  unfold nextRule
  have := nextCondS_le (k + 1 + 1) x.cond
  have := nextActionS_le (nextCondS (k + 1 + 1) x.cond) x.thn
  simp only [costRule]
  omega
theorem nextRuleS_le (k : Int) (l : List RuleD) : nextRuleS k l ≤ k + 16 * costRuleS l := by
  induction l generalizing k with
  | nil => simp [nextRuleS, costRuleS]
  | cons x r ih =>
    have h1 := nextRule_le k x
    have h2 := ih (nextRule k x)
    simp only [nextRuleS, costRuleS, List.length_cons, List.map_cons, List.sum_cons] at h2 ⊢
    omega

end Go.Proofs.YtlkgkkacnoaeaaaGreatDoor

namespace Go.Proofs.YtlkgkkacnoaeaaaGreatDoor
open Go.RowKit

set_option maxHeartbeats 1600000 in
theorem markStringS_any (A : Option Addr) (n c : Nat) (ds : List ByteArray) (L : List Nat) (base : Nat) (k : Int) (w : World) (hn : n = ds.length) (hk0 : 1 ≤ k) (hk1 : nextStringS k ds ≤ 4611686018427387904) (h : Got (sliceC strC) base [.slice A n c] ds L w) :
    Calls Tryz.prog 48 #[.slice A n c, .int .i64 k] w fun e w' => e = .returned (.int .i64 (nextStringS k ds)) ∧ Got (sliceC strC) base [.slice A n c] (mkStringS k ds) L w' ∧ Only L w w' := by
  have H := Lib.hid h
  have HN := Lib.hid hn
  have hk1' : k + n ≤ 4611686018427387904 := by simp only [nextStringS] at hk1; omega
  clear h hn hk1
  go_enter Tryz.func48, Tryz.ntmps48
  go_wp2
  go_loopw [1, 5] (fun q j wr => ∃ (i : Nat) (kk : Int) (D : List ByteArray), i ≤ n ∧ j = .int .i64 i ∧ q = .int .i64 kk ∧ 1 ≤ kk ∧ kk + (n - i : Nat) ≤ 4611686018427387904 ∧ Hid (kk = k + i ∧ D.length = i ∧ D ++ mkStringS kk (ds.drop i) = mkStringS k ds) ∧ Hid (Got (sliceC strC) base [.slice A n c] (D ++ ds.drop i) L wr) ∧ Hid (Only L w wr)) (fun _ j _ => n - (intOf j).toNat)
  case atStart => exact ⟨0, k, [], Nat.zero_le _, rfl, rfl, hk0, by omega, ⟨by omega, rfl, rfl⟩, H.out, Only.refl _ _⟩
  case round =>
    obtain ⟨i, kk, D, hi, rfl, rfl, h1, h2, HD, HG, HO⟩ := hrel
    by_cases hlt : i < n
    · have hil : i < ds.length := by have := HN.out; omega
      obtain ⟨hkk, hDl, hDm⟩ := HD.out
      have hcl : i < (D ++ ds.drop i).length := by simp; omega
      obtain ⟨b, off, cs, Lk, rfl, hbL, hLk, hown, hrep, hcells, hput⟩ := HG.out.focus hcl
      obtain ⟨rfl, hlk, _⟩ := hrep
      have HEl := Lib.hid (Elem.start (m := 1) hcells rfl hown)
      have hnext : Hid (ds.drop i = ds[i] :: ds.drop (i + 1)) := List.drop_eq_getElem_cons _
      have HPut := Lib.hid hput
      have HOwn := Lib.hid hown
      have HLk := Lib.hid hLk
      have HLe := Lib.hid hlk
      have HDn : Hid (kk + 1 = k + (i + 1 : Nat) ∧ (D ++ [mTx kk]).length = i + 1 ∧ (D ++ [mTx kk]) ++ mkStringS (kk + 1) (ds.drop (i + 1)) = mkStringS k ds) := by
        refine ⟨by omega, by simp [hDl], ?_⟩
        rw [← hDm, hnext.out]; simp [mkStringS]
      have hset : Hid ((D ++ ds.drop i).set i (mTx kk) = (D ++ [mTx kk]) ++ ds.drop (i + 1)) := by
        rw [Hid, List.set_append_right _ _ (by omega), show i - D.length = 0 by omega, hnext.out, List.set_cons_zero]; simp
      clear hput hown hLk hcells hkk hDl hDm hlk
      simp only [show strC.size = 1 from rfl, Nat.mul_one] at HEl HPut
      go_wp2_with (go_at_call 45; refine (markText_int _ _ (by omega) (by omega)).mono ?_; rintro e w1 ⟨rfl, hb1⟩; have E1 := Lib.hid (HEl.out.later hb1); have q1 := E1.out.at (j := 0) rfl; have z1 := E1.out.frozen (off + i); clear hb1; simp only [Nat.add_zero] at q1)
      have E2 := Lib.hid (E1.out.set 0 (by omega) (.string (mTx kk)))
      have hO2 := Lib.hid (own_cons_keep HOwn.out E2.out.plain E2.out.only (by rw [HLe.out]; simp))
      have HGn := Lib.hid (HPut.out _ _ (mTx kk) E2.out.only E2.out.cells E2.out.rest (by rw [HLe.out]; exact ⟨rfl, rfl, mTx_size _ (by omega)⟩) hO2.out)
      have HOn := Lib.hid (HO.out.trans (E2.out.only.mono (fun y m => by rcases List.mem_cons.1 m with rfl | m; exact hbL; exact HLk.out y m)))
      rw [hset.out] at HGn
      simp only [Nat.add_zero] at HGn HOn
      clear E2 hO2 HPut
      go_wp2_with fail
      go_roundw
      case rel => exact ⟨i + 1, kk + 1, _, by omega, by go_num, rfl, by omega, by omega, HDn, HGn, HOn⟩
      case measure => simp [intOf]; omega
    · obtain rfl : i = n := by omega
      have hf : Hid (nextStringS k ds = kk ∧ D = mkStringS k ds) := by
        obtain ⟨h1, h2, h3⟩ := HD.out
        have e : ds.drop i = [] := List.drop_of_length_le (by have := HN.out; omega)
        rw [e] at h3
        simp [mkStringS] at h3
        exact ⟨by have := HN.out; simp only [nextStringS]; omega, h3⟩
      have e : Hid (ds.drop i = []) := List.drop_of_length_le (by have := HN.out; omega)
      rw [e.out, List.append_nil] at HG
      go_wp2
      go_ret
      exact ⟨ret_i hf.out.1.symm, by rw [← hf.out.2]; exact HG.out, HO.out⟩

set_option maxRecDepth 100000 in
set_option maxHeartbeats 4000000 in
theorem markFactS_any (A : Option Addr) (n c : Nat) (ds : List FactD) (L : List Nat) (base : Nat) (k : Int) (w : World) (hn : n = ds.length) (hm : n ≤ 9223372036854775807) (hk0 : 1 ≤ k) (hk1 : nextFactS k ds ≤ 4611686018427387904) (h : Got (sliceC cFact) base [.slice A n c] ds L w) :
    Calls Tryz.prog 16 #[.slice A n c, .int .i64 k] w fun e w' => e = .returned (.int .i64 (nextFactS k ds)) ∧ Got (sliceC cFact) base [.slice A n c] (mkFactS k ds) L w' ∧ Only L w w' := by
  have H := Lib.hid h
  have HN := Lib.hid hn
  have HK := Lib.hid hk1
  clear h hn hk1
  go_enter Tryz.func16, Tryz.ntmps16
  go_wp2
  go_loopw [1, 5] (fun q j wr => ∃ (i : Nat) (kk : Int) (D : List FactD), i ≤ n ∧ j = .int .i64 i ∧ q = .int .i64 kk ∧ 1 ≤ kk ∧ Hid (nextFactS kk (ds.drop i) = nextFactS k ds ∧ D.length = i ∧ D ++ mkFactS kk (ds.drop i) = mkFactS k ds) ∧ Hid (Got (sliceC cFact) base [.slice A n c] (D ++ ds.drop i) L wr) ∧ Hid (Only L w wr)) (fun _ j _ => n - (intOf j).toNat)
  case atStart => exact ⟨0, k, [], Nat.zero_le _, rfl, rfl, hk0, ⟨rfl, rfl, rfl⟩, H.out, Only.refl _ _⟩
  case round =>
    obtain ⟨i, kk, D, hi, rfl, rfl, h1, HD, HG, HO⟩ := hrel
    by_cases hlt : i < n
    · have hil : i < ds.length := by have := HN.out; omega
      obtain ⟨hkk, hDl, hDm⟩ := HD.out
      have hcl : i < (D ++ ds.drop i).length := by simp; omega
      obtain ⟨b, off, cs, Lk, rfl, hbL, hLk, hown, hrep, hcells, hput⟩ := HG.out.focus hcl
      have hnext : Hid (ds.drop i = ds[i] :: ds.drop (i + 1)) := List.drop_eq_getElem_cons _
      have hxi : (D ++ ds.drop i)[i] = ds[i] := by
        rw [List.getElem_append_right (by omega)]; simp [hDl]
      rw [hxi] at hrep
      clear hxi
      generalize ds[i] = x at hrep hnext
      have hnb : Hid (nextFact kk x ≤ 4611686018427387904) := by
        have := nextFactS_ge (nextFact kk x) (ds.drop (i + 1))
        rw [hnext.out] at hkk
        have hk := HK.out
        rw [← hkk] at hk
        exact Int.le_trans this hk
      have hnb1 := hnb.out
      have hnb2 := nextFact_ge kk x
      unfold nextFact at hnb1 hnb2
      have HDn : Hid (nextFactS (nextFact kk x) (ds.drop (i + 1)) = nextFactS k ds ∧ (D ++ [mkFact kk x]).length = i + 1 ∧ (D ++ [mkFact kk x]) ++ mkFactS (nextFact kk x) (ds.drop (i + 1)) = mkFactS k ds) := by
        refine ⟨by rw [← hkk, hnext.out]; rfl, by simp [hDl], ?_⟩
        rw [← hDm, hnext.out]; simp [mkFactS]
      have hset : Hid ((D ++ ds.drop i).set i (mkFact kk x) = (D ++ [mkFact kk x]) ++ ds.drop (i + 1)) := by
        rw [Hid, List.set_append_right _ _ (by omega), show i - D.length = 0 by omega, hnext.out, List.set_cons_zero]; simp
      obtain ⟨A1, c1, L1, rfl, hLL, t0, n1, m1, s1⟩ := hrep
      unfold maxLen at m1
      subst Lk
      have HEl := Lib.hid (Elem.start (m := 2) hcells rfl hown)
      have hbn := Lib.hid hown.head
      have G1 : Hid (Got (sliceC strC) base [.slice A1 x.args.length c1] x.args L1 wr) := ⟨⟨A1, c1, rfl, n1, (by unfold maxLen; omega), s1⟩, hown.tail⟩
      have bn1 : Hid (b ∉ L1) := fun m => hown.head (by simp [m])
      have sb1 : Hid (∀ y ∈ L1, y ∈ L1) := fun y m => by simp [m]
      clear s1
      have HPut := Lib.hid hput
      have HOwn := Lib.hid hown
      have HLk := Lib.hid hLk
      clear hput hown hLk hcells hkk hDl hDm
      simp only [show cFact.size = 2 from rfl] at HEl HPut
      have q0 := HEl.out.at (j := 0) rfl
      have z0 := HEl.out.frozen (off + i * 2)
      have q1 := HEl.out.at (j := 1) rfl
      have z1 := HEl.out.frozen (off + i * 2 + 1)
      simp only [Nat.add_zero] at q0
      have gm0 : (0 : Int) ≤ 0 := by omega
      have mono_x_args := nextStringS_ge (kk + 1) x.args
      go_wp2_with fail
      refine (markText_int _ _ (by omega) (by omega)).mono ?_
      rintro e w1 ⟨rfl, hb1⟩
      have HEl := Lib.hid (HEl.out.later hb1)
      have G1 := Lib.hid (G1.out.later hb1)
      clear hb1
      clear q0 z0 q1 z1
      have q0 := HEl.out.at (j := 0) rfl
      have z0 := HEl.out.frozen (off + i * 2)
      have q1 := HEl.out.at (j := 1) rfl
      have z1 := HEl.out.frozen (off + i * 2 + 1)
      simp only [Nat.add_zero] at q0
      go_wp2_with fail
      have G1 := Lib.hid (G1.out.setFar (p := ⟨b, off + i * 2 + 0, none⟩) bn1.out (.string (mTx (kk))))
      refine (markStringS_any A1 _ c1 x.args L1 base _ _ rfl (by omega) (by omega) G1.out).mono ?_
      rintro e w2 ⟨rfl, g2, on2⟩
      have HEl := Lib.hid ((HEl.out.set 0 (by omega) (.string (mTx (kk)))).marked on2 sb1.out bn1.out)
      have G1 := Lib.hid g2
      clear g2 on2
      clear q0 z0 q1 z1
      have q0 := HEl.out.at (j := 0) rfl
      have z0 := HEl.out.frozen (off + i * 2)
      have q1 := HEl.out.at (j := 1) rfl
      have z1 := HEl.out.frozen (off + i * 2 + 1)
      simp only [Nat.add_zero] at q0
      obtain ⟨nn1, mm1, ss1⟩ := sliceC_out G1.out.rep
      have hO2 := Lib.hid (own_cons_keep HOwn.out HEl.out.plain HEl.out.only (fun y m => by (try simp only [List.mem_append] at m); exact G1.out.own.plain y m))
      have HGn := Lib.hid (HPut.out _ _ (mkFact kk x) HEl.out.only HEl.out.cells HEl.out.rest ⟨A1, c1, L1, by simp [mkFact, mkStringS_len], rfl, mTx_size _ (by omega), nn1, mm1, ss1⟩ hO2.out)
      have HOn := Lib.hid (HO.out.trans (HEl.out.only.mono (fun y m => by rcases List.mem_cons.1 m with rfl | m; exact hbL; exact HLk.out y m)))
      rw [hset.out] at HGn
      try simp only [Nat.add_zero] at HGn HOn
      clear HEl hO2 HPut G1 nn1 mm1 ss1
      go_wp2_with fail
      go_roundw
      case rel => exact ⟨i + 1, nextFact kk x, _, by omega, by go_num, rfl, by unfold nextFact; omega, HDn, HGn, HOn⟩
      case measure => simp [intOf]; omega
    · obtain rfl : i = n := by omega
      have e : Hid (ds.drop i = []) := List.drop_of_length_le (by have := HN.out; omega)
      have hf : Hid (nextFactS k ds = kk ∧ D = mkFactS k ds) := by
        obtain ⟨h1, h2, h3⟩ := HD.out
        rw [e.out] at h3 h1
        simp [mkFactS] at h3
        exact ⟨h1.symm, h3⟩
      rw [e.out, List.append_nil] at HG
      go_wp2
      go_ret
      exact ⟨ret_i hf.out.1.symm, by rw [← hf.out.2]; exact HG.out, HO.out⟩

set_option maxRecDepth 100000 in
set_option maxHeartbeats 4000000 in
theorem markCondS_any (A : Option Addr) (n c : Nat) (ds : List CondD) (L : List Nat) (base : Nat) (k : Int) (w : World) (hn : n = ds.length) (hm : n ≤ 9223372036854775807) (hk0 : 1 ≤ k) (hk1 : nextCondS k ds ≤ 4611686018427387904) (h : Got (sliceC cCond) base [.slice A n c] ds L w) :
    Calls Tryz.prog 46 #[.slice A n c, .int .i64 k] w fun e w' => e = .returned (.int .i64 (nextCondS k ds)) ∧ Got (sliceC cCond) base [.slice A n c] (mkCondS k ds) L w' ∧ Only L w w' := by
  have H := Lib.hid h
  have HN := Lib.hid hn
  have HK := Lib.hid hk1
  clear h hn hk1
  go_enter Tryz.func46, Tryz.ntmps46
  go_wp2
  go_loopw [1, 5] (fun q j wr => ∃ (i : Nat) (kk : Int) (D : List CondD), i ≤ n ∧ j = .int .i64 i ∧ q = .int .i64 kk ∧ 1 ≤ kk ∧ Hid (nextCondS kk (ds.drop i) = nextCondS k ds ∧ D.length = i ∧ D ++ mkCondS kk (ds.drop i) = mkCondS k ds) ∧ Hid (Got (sliceC cCond) base [.slice A n c] (D ++ ds.drop i) L wr) ∧ Hid (Only L w wr)) (fun _ j _ => n - (intOf j).toNat)
  case atStart => exact ⟨0, k, [], Nat.zero_le _, rfl, rfl, hk0, ⟨rfl, rfl, rfl⟩, H.out, Only.refl _ _⟩
  case round =>
    obtain ⟨i, kk, D, hi, rfl, rfl, h1, HD, HG, HO⟩ := hrel
    by_cases hlt : i < n
    · have hil : i < ds.length := by have := HN.out; omega
      obtain ⟨hkk, hDl, hDm⟩ := HD.out
      have hcl : i < (D ++ ds.drop i).length := by simp; omega
      obtain ⟨b, off, cs, Lk, rfl, hbL, hLk, hown, hrep, hcells, hput⟩ := HG.out.focus hcl
      have hnext : Hid (ds.drop i = ds[i] :: ds.drop (i + 1)) := List.drop_eq_getElem_cons _
      have hxi : (D ++ ds.drop i)[i] = ds[i] := by
        rw [List.getElem_append_right (by omega)]; simp [hDl]
      rw [hxi] at hrep
      clear hxi
      generalize ds[i] = x at hrep hnext
      have hnb : Hid (nextCond kk x ≤ 4611686018427387904) := by
        have := nextCondS_ge (nextCond kk x) (ds.drop (i + 1))
        rw [hnext.out] at hkk
        have hk := HK.out
        rw [← hkk] at hk
        exact Int.le_trans this hk
      have hnb1 := hnb.out
      have hnb2 := nextCond_ge kk x
      unfold nextCond at hnb1 hnb2
      have HDn : Hid (nextCondS (nextCond kk x) (ds.drop (i + 1)) = nextCondS k ds ∧ (D ++ [mkCond kk x]).length = i + 1 ∧ (D ++ [mkCond kk x]) ++ mkCondS (nextCond kk x) (ds.drop (i + 1)) = mkCondS k ds) := by
        refine ⟨by rw [← hkk, hnext.out]; rfl, by simp [hDl], ?_⟩
        rw [← hDm, hnext.out]; simp [mkCondS]
      have hset : Hid ((D ++ ds.drop i).set i (mkCond kk x) = (D ++ [mkCond kk x]) ++ ds.drop (i + 1)) := by
        rw [Hid, List.set_append_right _ _ (by omega), show i - D.length = 0 by omega, hnext.out, List.set_cons_zero]; simp
      obtain ⟨A1, c1, L1, rfl, hLL, t0, t1, t2, n1, m1, s1⟩ := hrep
      unfold maxLen at m1
      subst Lk
      have HEl := Lib.hid (Elem.start (m := 5) hcells rfl hown)
      have hbn := Lib.hid hown.head
      have G1 : Hid (Got (sliceC strC) base [.slice A1 x.pattern.args.length c1] x.pattern.args L1 wr) := ⟨⟨A1, c1, rfl, n1, (by unfold maxLen; omega), s1⟩, hown.tail⟩
      have bn1 : Hid (b ∉ L1) := fun m => hown.head (by simp [m])
      have sb1 : Hid (∀ y ∈ L1, y ∈ L1) := fun y m => by simp [m]
      clear s1
      have HPut := Lib.hid hput
      have HOwn := Lib.hid hown
      have HLk := Lib.hid hLk
      clear hput hown hLk hcells hkk hDl hDm
      simp only [show cCond.size = 5 from rfl] at HEl HPut
      have q0 := HEl.out.at (j := 0) rfl
      have z0 := HEl.out.frozen (off + i * 5)
      have q1 := HEl.out.at (j := 1) rfl
      have z1 := HEl.out.frozen (off + i * 5 + 1)
      have q2 := HEl.out.at (j := 2) rfl
      have z2 := HEl.out.frozen (off + i * 5 + 2)
      have q3 := HEl.out.at (j := 3) rfl
      have z3 := HEl.out.frozen (off + i * 5 + 3)
      have q4 := HEl.out.at (j := 4) rfl
      have z4 := HEl.out.frozen (off + i * 5 + 4)
      simp only [Nat.add_zero] at q0
      have gm0 : (0 : Int) ≤ 0 := by omega
      have mono_x_pattern_args := nextStringS_ge (kk + 1 + 1) x.pattern.args
      go_wp2_with fail
      refine (markText_int _ _ (by omega) (by omega)).mono ?_
      rintro e w1 ⟨rfl, hb1⟩
      have HEl := Lib.hid ((HEl.out.set 0 (by omega) (.int .i64 (kk))).later hb1)
      have G1 := Lib.hid ((G1.out.setFar (p := ⟨b, off + i * 5 + 0, none⟩) bn1.out (.int .i64 (kk))).later hb1)
      clear hb1
      clear q0 z0 q1 z1 q2 z2 q3 z3 q4 z4
      have q0 := HEl.out.at (j := 0) rfl
      have z0 := HEl.out.frozen (off + i * 5)
      have q1 := HEl.out.at (j := 1) rfl
      have z1 := HEl.out.frozen (off + i * 5 + 1)
      have q2 := HEl.out.at (j := 2) rfl
      have z2 := HEl.out.frozen (off + i * 5 + 2)
      have q3 := HEl.out.at (j := 3) rfl
      have z3 := HEl.out.frozen (off + i * 5 + 3)
      have q4 := HEl.out.at (j := 4) rfl
      have z4 := HEl.out.frozen (off + i * 5 + 4)
      simp only [Nat.add_zero] at q0
      go_wp2_with fail
      have G1 := Lib.hid (G1.out.setFar (p := ⟨b, off + i * 5 + 1, none⟩) bn1.out (.string (mTx (kk + 1))))
      refine (markStringS_any A1 _ c1 x.pattern.args L1 base _ _ rfl (by omega) (by omega) G1.out).mono ?_
      rintro e w2 ⟨rfl, g2, on2⟩
      have HEl := Lib.hid ((HEl.out.set 1 (by omega) (.string (mTx (kk + 1)))).marked on2 sb1.out bn1.out)
      have G1 := Lib.hid g2
      clear g2 on2
      clear q0 z0 q1 z1 q2 z2 q3 z3 q4 z4
      have q0 := HEl.out.at (j := 0) rfl
      have z0 := HEl.out.frozen (off + i * 5)
      have q1 := HEl.out.at (j := 1) rfl
      have z1 := HEl.out.frozen (off + i * 5 + 1)
      have q2 := HEl.out.at (j := 2) rfl
      have z2 := HEl.out.frozen (off + i * 5 + 2)
      have q3 := HEl.out.at (j := 3) rfl
      have z3 := HEl.out.frozen (off + i * 5 + 3)
      have q4 := HEl.out.at (j := 4) rfl
      have z4 := HEl.out.frozen (off + i * 5 + 4)
      simp only [Nat.add_zero] at q0
      go_wp2_with fail
      refine (markText_int _ _ (by omega) (by omega)).mono ?_
      rintro e w3 ⟨rfl, hb3⟩
      have HEl := Lib.hid (HEl.out.later hb3)
      have G1 := Lib.hid (G1.out.later hb3)
      clear hb3
      clear q0 z0 q1 z1 q2 z2 q3 z3 q4 z4
      have q0 := HEl.out.at (j := 0) rfl
      have z0 := HEl.out.frozen (off + i * 5)
      have q1 := HEl.out.at (j := 1) rfl
      have z1 := HEl.out.frozen (off + i * 5 + 1)
      have q2 := HEl.out.at (j := 2) rfl
      have z2 := HEl.out.frozen (off + i * 5 + 2)
      have q3 := HEl.out.at (j := 3) rfl
      have z3 := HEl.out.frozen (off + i * 5 + 3)
      have q4 := HEl.out.at (j := 4) rfl
      have z4 := HEl.out.frozen (off + i * 5 + 4)
      simp only [Nat.add_zero] at q0
      go_wp2_with fail
      refine (markText_int _ _ (by omega) (by omega)).mono ?_
      rintro e w4 ⟨rfl, hb4⟩
      have HEl := Lib.hid ((HEl.out.set 3 (by omega) (.string (mTx (nextStringS (kk + 1 + 1) x.pattern.args)))).later hb4)
      have G1 := Lib.hid ((G1.out.setFar (p := ⟨b, off + i * 5 + 3, none⟩) bn1.out (.string (mTx (nextStringS (kk + 1 + 1) x.pattern.args)))).later hb4)
      clear hb4
      clear q0 z0 q1 z1 q2 z2 q3 z3 q4 z4
      have q0 := HEl.out.at (j := 0) rfl
      have z0 := HEl.out.frozen (off + i * 5)
      have q1 := HEl.out.at (j := 1) rfl
      have z1 := HEl.out.frozen (off + i * 5 + 1)
      have q2 := HEl.out.at (j := 2) rfl
      have z2 := HEl.out.frozen (off + i * 5 + 2)
      have q3 := HEl.out.at (j := 3) rfl
      have z3 := HEl.out.frozen (off + i * 5 + 3)
      have q4 := HEl.out.at (j := 4) rfl
      have z4 := HEl.out.frozen (off + i * 5 + 4)
      simp only [Nat.add_zero] at q0
      have HEl := Lib.hid (HEl.out.set 4 (by omega) (.string (mTx (nextStringS (kk + 1 + 1) x.pattern.args + 1))))
      have G1 := Lib.hid (G1.out.setFar (p := ⟨b, off + i * 5 + 4, none⟩) bn1.out (.string (mTx (nextStringS (kk + 1 + 1) x.pattern.args + 1))))
      obtain ⟨nn1, mm1, ss1⟩ := sliceC_out G1.out.rep
      have hO2 := Lib.hid (own_cons_keep HOwn.out HEl.out.plain HEl.out.only (fun y m => by (try simp only [List.mem_append] at m); exact G1.out.own.plain y m))
      have HGn := Lib.hid (HPut.out _ _ (mkCond kk x) HEl.out.only HEl.out.cells HEl.out.rest ⟨A1, c1, L1, by simp [mkCond, mkStringS_len], rfl, mTx_size _ (by omega), mTx_size _ (by omega), mTx_size _ (by omega), nn1, mm1, ss1⟩ hO2.out)
      have HOn := Lib.hid (HO.out.trans (HEl.out.only.mono (fun y m => by rcases List.mem_cons.1 m with rfl | m; exact hbL; exact HLk.out y m)))
      rw [hset.out] at HGn
      try simp only [Nat.add_zero] at HGn HOn
      clear HEl hO2 HPut G1 nn1 mm1 ss1
      go_wp2_with fail
      go_roundw
      case rel => exact ⟨i + 1, nextCond kk x, _, by omega, by go_num, rfl, by unfold nextCond; omega, HDn, HGn, HOn⟩
      case measure => simp [intOf]; omega
    · obtain rfl : i = n := by omega
      have e : Hid (ds.drop i = []) := List.drop_of_length_le (by have := HN.out; omega)
      have hf : Hid (nextCondS k ds = kk ∧ D = mkCondS k ds) := by
        obtain ⟨h1, h2, h3⟩ := HD.out
        rw [e.out] at h3 h1
        simp [mkCondS] at h3
        exact ⟨h1.symm, h3⟩
      rw [e.out, List.append_nil] at HG
      go_wp2
      go_ret
      exact ⟨ret_i hf.out.1.symm, by rw [← hf.out.2]; exact HG.out, HO.out⟩

set_option maxRecDepth 100000 in
set_option maxHeartbeats 4000000 in
theorem markActionS_any (A : Option Addr) (n c : Nat) (ds : List ActionD) (L : List Nat) (base : Nat) (k : Int) (w : World) (hn : n = ds.length) (hm : n ≤ 9223372036854775807) (hk0 : 1 ≤ k) (hk1 : nextActionS k ds ≤ 4611686018427387904) (h : Got (sliceC cAction) base [.slice A n c] ds L w) :
    Calls Tryz.prog 47 #[.slice A n c, .int .i64 k] w fun e w' => e = .returned (.int .i64 (nextActionS k ds)) ∧ Got (sliceC cAction) base [.slice A n c] (mkActionS k ds) L w' ∧ Only L w w' := by
  have H := Lib.hid h
  have HN := Lib.hid hn
  have HK := Lib.hid hk1
  clear h hn hk1
  go_enter Tryz.func47, Tryz.ntmps47
  go_wp2
  go_loopw [1, 5] (fun q j wr => ∃ (i : Nat) (kk : Int) (D : List ActionD), i ≤ n ∧ j = .int .i64 i ∧ q = .int .i64 kk ∧ 1 ≤ kk ∧ Hid (nextActionS kk (ds.drop i) = nextActionS k ds ∧ D.length = i ∧ D ++ mkActionS kk (ds.drop i) = mkActionS k ds) ∧ Hid (Got (sliceC cAction) base [.slice A n c] (D ++ ds.drop i) L wr) ∧ Hid (Only L w wr)) (fun _ j _ => n - (intOf j).toNat)
  case atStart => exact ⟨0, k, [], Nat.zero_le _, rfl, rfl, hk0, ⟨rfl, rfl, rfl⟩, H.out, Only.refl _ _⟩
  case round =>
    obtain ⟨i, kk, D, hi, rfl, rfl, h1, HD, HG, HO⟩ := hrel
    by_cases hlt : i < n
    · have hil : i < ds.length := by have := HN.out; omega
      obtain ⟨hkk, hDl, hDm⟩ := HD.out
      have hcl : i < (D ++ ds.drop i).length := by simp; omega
      obtain ⟨b, off, cs, Lk, rfl, hbL, hLk, hown, hrep, hcells, hput⟩ := HG.out.focus hcl
      have hnext : Hid (ds.drop i = ds[i] :: ds.drop (i + 1)) := List.drop_eq_getElem_cons _
      have hxi : (D ++ ds.drop i)[i] = ds[i] := by
        rw [List.getElem_append_right (by omega)]; simp [hDl]
      rw [hxi] at hrep
      clear hxi
      generalize ds[i] = x at hrep hnext
      have hnb : Hid (nextAction kk x ≤ 4611686018427387904) := by
        have := nextActionS_ge (nextAction kk x) (ds.drop (i + 1))
        rw [hnext.out] at hkk
        have hk := HK.out
        rw [← hkk] at hk
        exact Int.le_trans this hk
      have hnb1 := hnb.out
      have hnb2 := nextAction_ge kk x
      unfold nextAction at hnb1 hnb2
      have HDn : Hid (nextActionS (nextAction kk x) (ds.drop (i + 1)) = nextActionS k ds ∧ (D ++ [mkAction kk x]).length = i + 1 ∧ (D ++ [mkAction kk x]) ++ mkActionS (nextAction kk x) (ds.drop (i + 1)) = mkActionS k ds) := by
        refine ⟨by rw [← hkk, hnext.out]; rfl, by simp [hDl], ?_⟩
        rw [← hDm, hnext.out]; simp [mkActionS]
      have hset : Hid ((D ++ ds.drop i).set i (mkAction kk x) = (D ++ [mkAction kk x]) ++ ds.drop (i + 1)) := by
        rw [Hid, List.set_append_right _ _ (by omega), show i - D.length = 0 by omega, hnext.out, List.set_cons_zero]; simp
      obtain ⟨A1, c1, L1, rfl, hLL, t0, n1, m1, s1⟩ := hrep
      unfold maxLen at m1
      subst Lk
      have HEl := Lib.hid (Elem.start (m := 3) hcells rfl hown)
      have hbn := Lib.hid hown.head
      have G1 : Hid (Got (sliceC strC) base [.slice A1 x.pattern.args.length c1] x.pattern.args L1 wr) := ⟨⟨A1, c1, rfl, n1, (by unfold maxLen; omega), s1⟩, hown.tail⟩
      have bn1 : Hid (b ∉ L1) := fun m => hown.head (by simp [m])
      have sb1 : Hid (∀ y ∈ L1, y ∈ L1) := fun y m => by simp [m]
      clear s1
      have HPut := Lib.hid hput
      have HOwn := Lib.hid hown
      have HLk := Lib.hid hLk
      clear hput hown hLk hcells hkk hDl hDm
      simp only [show cAction.size = 3 from rfl] at HEl HPut
      have q0 := HEl.out.at (j := 0) rfl
      have z0 := HEl.out.frozen (off + i * 3)
      have q1 := HEl.out.at (j := 1) rfl
      have z1 := HEl.out.frozen (off + i * 3 + 1)
      have q2 := HEl.out.at (j := 2) rfl
      have z2 := HEl.out.frozen (off + i * 3 + 2)
      simp only [Nat.add_zero] at q0
      have gm0 : (0 : Int) ≤ 0 := by omega
      have mono_x_pattern_args := nextStringS_ge (kk + 1 + 1) x.pattern.args
      go_wp2_with fail
      refine (markText_int _ _ (by omega) (by omega)).mono ?_
      rintro e w1 ⟨rfl, hb1⟩
      have HEl := Lib.hid ((HEl.out.set 0 (by omega) (.int .i64 (kk))).later hb1)
      have G1 := Lib.hid ((G1.out.setFar (p := ⟨b, off + i * 3 + 0, none⟩) bn1.out (.int .i64 (kk))).later hb1)
      clear hb1
      clear q0 z0 q1 z1 q2 z2
      have q0 := HEl.out.at (j := 0) rfl
      have z0 := HEl.out.frozen (off + i * 3)
      have q1 := HEl.out.at (j := 1) rfl
      have z1 := HEl.out.frozen (off + i * 3 + 1)
      have q2 := HEl.out.at (j := 2) rfl
      have z2 := HEl.out.frozen (off + i * 3 + 2)
      simp only [Nat.add_zero] at q0
      go_wp2_with fail
      have G1 := Lib.hid (G1.out.setFar (p := ⟨b, off + i * 3 + 1, none⟩) bn1.out (.string (mTx (kk + 1))))
      refine (markStringS_any A1 _ c1 x.pattern.args L1 base _ _ rfl (by omega) (by omega) G1.out).mono ?_
      rintro e w2 ⟨rfl, g2, on2⟩
      have HEl := Lib.hid ((HEl.out.set 1 (by omega) (.string (mTx (kk + 1)))).marked on2 sb1.out bn1.out)
      have G1 := Lib.hid g2
      clear g2 on2
      clear q0 z0 q1 z1 q2 z2
      have q0 := HEl.out.at (j := 0) rfl
      have z0 := HEl.out.frozen (off + i * 3)
      have q1 := HEl.out.at (j := 1) rfl
      have z1 := HEl.out.frozen (off + i * 3 + 1)
      have q2 := HEl.out.at (j := 2) rfl
      have z2 := HEl.out.frozen (off + i * 3 + 2)
      simp only [Nat.add_zero] at q0
      obtain ⟨nn1, mm1, ss1⟩ := sliceC_out G1.out.rep
      have hO2 := Lib.hid (own_cons_keep HOwn.out HEl.out.plain HEl.out.only (fun y m => by (try simp only [List.mem_append] at m); exact G1.out.own.plain y m))
      have HGn := Lib.hid (HPut.out _ _ (mkAction kk x) HEl.out.only HEl.out.cells HEl.out.rest ⟨A1, c1, L1, by simp [mkAction, mkStringS_len], rfl, mTx_size _ (by omega), nn1, mm1, ss1⟩ hO2.out)
      have HOn := Lib.hid (HO.out.trans (HEl.out.only.mono (fun y m => by rcases List.mem_cons.1 m with rfl | m; exact hbL; exact HLk.out y m)))
      rw [hset.out] at HGn
      try simp only [Nat.add_zero] at HGn HOn
      clear HEl hO2 HPut G1 nn1 mm1 ss1
      go_wp2_with fail
      go_roundw
      case rel => exact ⟨i + 1, nextAction kk x, _, by omega, by go_num, rfl, by unfold nextAction; omega, HDn, HGn, HOn⟩
      case measure => simp [intOf]; omega
    · obtain rfl : i = n := by omega
      have e : Hid (ds.drop i = []) := List.drop_of_length_le (by have := HN.out; omega)
      have hf : Hid (nextActionS k ds = kk ∧ D = mkActionS k ds) := by
        obtain ⟨h1, h2, h3⟩ := HD.out
        rw [e.out] at h3 h1
        simp [mkActionS] at h3
        exact ⟨h1.symm, h3⟩
      rw [e.out, List.append_nil] at HG
      go_wp2
      go_ret
      exact ⟨ret_i hf.out.1.symm, by rw [← hf.out.2]; exact HG.out, HO.out⟩

set_option maxRecDepth 100000 in
set_option maxHeartbeats 4000000 in
theorem markRuleS_any (A : Option Addr) (n c : Nat) (ds : List RuleD) (L : List Nat) (base : Nat) (k : Int) (w : World) (hn : n = ds.length) (hm : n ≤ 9223372036854775807) (hk0 : 1 ≤ k) (hk1 : nextRuleS k ds ≤ 4611686018427387904) (h : Got (sliceC cRule) base [.slice A n c] ds L w) :
    Calls Tryz.prog 15 #[.slice A n c, .int .i64 k] w fun e w' => e = .returned (.int .i64 (nextRuleS k ds)) ∧ Got (sliceC cRule) base [.slice A n c] (mkRuleS k ds) L w' ∧ Only L w w' := by
  have H := Lib.hid h
  have HN := Lib.hid hn
  have HK := Lib.hid hk1
  clear h hn hk1
  go_enter Tryz.func15, Tryz.ntmps15
  go_wp2
  go_loopw [1, 5] (fun q j wr => ∃ (i : Nat) (kk : Int) (D : List RuleD), i ≤ n ∧ j = .int .i64 i ∧ q = .int .i64 kk ∧ 1 ≤ kk ∧ Hid (nextRuleS kk (ds.drop i) = nextRuleS k ds ∧ D.length = i ∧ D ++ mkRuleS kk (ds.drop i) = mkRuleS k ds) ∧ Hid (Got (sliceC cRule) base [.slice A n c] (D ++ ds.drop i) L wr) ∧ Hid (Only L w wr)) (fun _ j _ => n - (intOf j).toNat)
  case atStart => exact ⟨0, k, [], Nat.zero_le _, rfl, rfl, hk0, ⟨rfl, rfl, rfl⟩, H.out, Only.refl _ _⟩
  case round =>
    obtain ⟨i, kk, D, hi, rfl, rfl, h1, HD, HG, HO⟩ := hrel
    by_cases hlt : i < n
    · have hil : i < ds.length := by have := HN.out; omega
      obtain ⟨hkk, hDl, hDm⟩ := HD.out
      have hcl : i < (D ++ ds.drop i).length := by simp; omega
      obtain ⟨b, off, cs, Lk, rfl, hbL, hLk, hown, hrep, hcells, hput⟩ := HG.out.focus hcl
      have hnext : Hid (ds.drop i = ds[i] :: ds.drop (i + 1)) := List.drop_eq_getElem_cons _
      have hxi : (D ++ ds.drop i)[i] = ds[i] := by
        rw [List.getElem_append_right (by omega)]; simp [hDl]
      rw [hxi] at hrep
      clear hxi
      generalize ds[i] = x at hrep hnext
      have hnb : Hid (nextRule kk x ≤ 4611686018427387904) := by
        have := nextRuleS_ge (nextRule kk x) (ds.drop (i + 1))
        rw [hnext.out] at hkk
        have hk := HK.out
        rw [← hkk] at hk
        exact Int.le_trans this hk
      have hnb1 := hnb.out
      have hnb2 := nextRule_ge kk x
      unfold nextRule at hnb1 hnb2
      have HDn : Hid (nextRuleS (nextRule kk x) (ds.drop (i + 1)) = nextRuleS k ds ∧ (D ++ [mkRule kk x]).length = i + 1 ∧ (D ++ [mkRule kk x]) ++ mkRuleS (nextRule kk x) (ds.drop (i + 1)) = mkRuleS k ds) := by
        refine ⟨by rw [← hkk, hnext.out]; rfl, by simp [hDl], ?_⟩
        rw [← hDm, hnext.out]; simp [mkRuleS]
      have hset : Hid ((D ++ ds.drop i).set i (mkRule kk x) = (D ++ [mkRule kk x]) ++ ds.drop (i + 1)) := by
        rw [Hid, List.set_append_right _ _ (by omega), show i - D.length = 0 by omega, hnext.out, List.set_cons_zero]; simp
      obtain ⟨A1, c1, L1, A2, c2, L2, rfl, hLL, t0, n1, m1, s1, n2, m2, s2⟩ := hrep
      unfold maxLen at m1 m2
      subst hLL
      have HEl := Lib.hid (Elem.start (m := 4) hcells rfl hown)
      have hbn := Lib.hid hown.head
      have G1 : Hid (Got (sliceC cCond) base [.slice A1 x.cond.length c1] x.cond L1 wr) := ⟨⟨A1, c1, rfl, n1, (by unfold maxLen; omega), s1⟩, hown.tail.left⟩
      have bn1 : Hid (b ∉ L1) := fun m => hown.head (by simp [m])
      have sb1 : Hid (∀ y ∈ L1, y ∈ L1 ++ L2) := fun y m => by simp [m]
      have ap1_2 : Hid (∀ y ∈ L1, y ∉ L2) := fun y m m' => hown.tail.apart y m (by simp [m'])
      have ap2_1 : Hid (∀ y ∈ L2, y ∉ L1) := fun y m m' => ap1_2.out y m' m
      have G2 : Hid (Got (sliceC cAction) base [.slice A2 x.thn.length c2] x.thn L2 wr) := ⟨⟨A2, c2, rfl, n2, (by unfold maxLen; omega), s2⟩, hown.tail.right⟩
      have bn2 : Hid (b ∉ L2) := fun m => hown.head (by simp [m])
      have sb2 : Hid (∀ y ∈ L2, y ∈ L1 ++ L2) := fun y m => by simp [m]
      clear s1
      clear s2
      have HPut := Lib.hid hput
      have HOwn := Lib.hid hown
      have HLk := Lib.hid hLk
      clear hput hown hLk hcells hkk hDl hDm
      simp only [show cRule.size = 4 from rfl] at HEl HPut
      have q0 := HEl.out.at (j := 0) rfl
      have z0 := HEl.out.frozen (off + i * 4)
      have q1 := HEl.out.at (j := 1) rfl
      have z1 := HEl.out.frozen (off + i * 4 + 1)
      have q2 := HEl.out.at (j := 2) rfl
      have z2 := HEl.out.frozen (off + i * 4 + 2)
      have q3 := HEl.out.at (j := 3) rfl
      have z3 := HEl.out.frozen (off + i * 4 + 3)
      simp only [Nat.add_zero] at q0
      have gm0 : (0 : Int) ≤ 0 := by omega
      have mono_x_cond := nextCondS_ge (kk + 1 + 1) x.cond
      have mono_x_thn := nextActionS_ge (nextCondS (kk + 1 + 1) x.cond) x.thn
      go_wp2_with fail
      refine (markText_int _ _ (by omega) (by omega)).mono ?_
      rintro e w1 ⟨rfl, hb1⟩
      have HEl := Lib.hid (HEl.out.later hb1)
      have G1 := Lib.hid (G1.out.later hb1)
      have G2 := Lib.hid (G2.out.later hb1)
      clear hb1
      clear q0 z0 q1 z1 q2 z2 q3 z3
      have q0 := HEl.out.at (j := 0) rfl
      have z0 := HEl.out.frozen (off + i * 4)
      have q1 := HEl.out.at (j := 1) rfl
      have z1 := HEl.out.frozen (off + i * 4 + 1)
      have q2 := HEl.out.at (j := 2) rfl
      have z2 := HEl.out.frozen (off + i * 4 + 2)
      have q3 := HEl.out.at (j := 3) rfl
      have z3 := HEl.out.frozen (off + i * 4 + 3)
      simp only [Nat.add_zero] at q0
      go_wp2_with fail
      have G1 := Lib.hid ((G1.out.setFar (p := ⟨b, off + i * 4 + 0, none⟩) bn1.out (.string (mTx (kk)))).setFar (p := ⟨b, off + i * 4 + 1, none⟩) bn1.out (.int .i64 (kk + 1)))
      refine (markCondS_any A1 _ c1 x.cond L1 base _ _ rfl (by omega) (by omega) (by omega) G1.out).mono ?_
      rintro e w2 ⟨rfl, g2, on2⟩
      have HEl := Lib.hid (((HEl.out.set 0 (by omega) (.string (mTx (kk)))).set 1 (by omega) (.int .i64 (kk + 1))).marked on2 sb1.out bn1.out)
      have G1 := Lib.hid g2
      have G2 := Lib.hid (((G2.out.setFar (p := ⟨b, off + i * 4 + 0, none⟩) bn2.out (.string (mTx (kk)))).setFar (p := ⟨b, off + i * 4 + 1, none⟩) bn2.out (.int .i64 (kk + 1))).only on2 ap2_1.out)
      clear g2 on2
      clear q0 z0 q1 z1 q2 z2 q3 z3
      have q0 := HEl.out.at (j := 0) rfl
      have z0 := HEl.out.frozen (off + i * 4)
      have q1 := HEl.out.at (j := 1) rfl
      have z1 := HEl.out.frozen (off + i * 4 + 1)
      have q2 := HEl.out.at (j := 2) rfl
      have z2 := HEl.out.frozen (off + i * 4 + 2)
      have q3 := HEl.out.at (j := 3) rfl
      have z3 := HEl.out.frozen (off + i * 4 + 3)
      simp only [Nat.add_zero] at q0
      go_wp2_with fail
      refine (markActionS_any A2 _ c2 x.thn L2 base _ _ rfl (by omega) (by omega) (by omega) G2.out).mono ?_
      rintro e w3 ⟨rfl, g3, on3⟩
      have HEl := Lib.hid (HEl.out.marked on3 sb2.out bn2.out)
      have G1 := Lib.hid (G1.out.only on3 ap1_2.out)
      have G2 := Lib.hid g3
      clear g3 on3
      clear q0 z0 q1 z1 q2 z2 q3 z3
      have q0 := HEl.out.at (j := 0) rfl
      have z0 := HEl.out.frozen (off + i * 4)
      have q1 := HEl.out.at (j := 1) rfl
      have z1 := HEl.out.frozen (off + i * 4 + 1)
      have q2 := HEl.out.at (j := 2) rfl
      have z2 := HEl.out.frozen (off + i * 4 + 2)
      have q3 := HEl.out.at (j := 3) rfl
      have z3 := HEl.out.frozen (off + i * 4 + 3)
      simp only [Nat.add_zero] at q0
      obtain ⟨nn1, mm1, ss1⟩ := sliceC_out G1.out.rep
      obtain ⟨nn2, mm2, ss2⟩ := sliceC_out G2.out.rep
      have hO2 := Lib.hid (own_cons_keep HOwn.out HEl.out.plain HEl.out.only (fun y m => by (try simp only [List.mem_append] at m); rcases m with m | m <;> first | exact G1.out.own.plain y m | exact G2.out.own.plain y m))
      have HGn := Lib.hid (HPut.out _ _ (mkRule kk x) HEl.out.only HEl.out.cells HEl.out.rest ⟨A1, c1, L1, A2, c2, L2, by simp [mkRule, mkCondS_len, mkActionS_len], rfl, mTx_size _ (by omega), nn1, mm1, ss1, nn2, mm2, ss2⟩ hO2.out)
      have HOn := Lib.hid (HO.out.trans (HEl.out.only.mono (fun y m => by rcases List.mem_cons.1 m with rfl | m; exact hbL; exact HLk.out y m)))
      rw [hset.out] at HGn
      try simp only [Nat.add_zero] at HGn HOn
      clear HEl hO2 HPut G1 G2 nn1 nn2 mm1 mm2 ss1 ss2
      go_wp2_with fail
      go_roundw
      case rel => exact ⟨i + 1, nextRule kk x, _, by omega, by go_num, rfl, by unfold nextRule; omega, HDn, HGn, HOn⟩
      case measure => simp [intOf]; omega
    · obtain rfl : i = n := by omega
      have e : Hid (ds.drop i = []) := List.drop_of_length_le (by have := HN.out; omega)
      have hf : Hid (nextRuleS k ds = kk ∧ D = mkRuleS k ds) := by
        obtain ⟨h1, h2, h3⟩ := HD.out
        rw [e.out] at h3 h1
        simp [mkRuleS] at h3
        exact ⟨h1.symm, h3⟩
      rw [e.out, List.append_nil] at HG
      go_wp2
      go_ret
      exact ⟨ret_i hf.out.1.symm, by rw [← hf.out.2]; exact HG.out, HO.out⟩

end Go.Proofs.YtlkgkkacnoaeaaaGreatDoor

namespace Go.Proofs.YtlkgkkacnoaeaaaGreatDoor
open Go.RowKit

theorem below_of_drew {w w1 : World} {B : Nat} (h : Below w.drew.heap.size w.drew w1) (hB : B ≤ w.heap.size) : Below B w w1 := ⟨h.os, h.tape, h.output, h.size, fun k hk => h.block k (Nat.lt_of_lt_of_le hk hB)⟩

set_option maxHeartbeats 1600000 in
theorem heldStringS_any (A : Option Addr) (n c : Nat) (ds : List ByteArray) (L : List Nat) (k : Int) (w : World) (hn : n = ds.length) (hk0 : 1 ≤ k) (hk1 : nextStringS k ds ≤ 4611686018427387904) (h : Sli strC w A (mkStringS k ds) L) :
    Calls Tryz.prog 49 #[.slice A n c, .int .i64 k] w fun e w' => e = .returned (.int .i64 (nextStringS k ds)) ∧ Below w.heap.size w w' := by
  have H := Lib.hid h
  have HN := Lib.hid hn
  have hk1' : k + n ≤ 4611686018427387904 := by simp only [nextStringS] at hk1; omega
  clear h hn hk1
  go_enter Tryz.func49, Tryz.ntmps49
  go_wp2
  go_loopw [1, 5] (fun q j wr => ∃ (i : Nat) (kk : Int), i ≤ n ∧ j = .int .i64 i ∧ q = .int .i64 kk ∧ 1 ≤ kk ∧ kk + (n - i : Nat) ≤ 4611686018427387904 ∧ Hid (kk = k + i ∧ (mkStringS k ds).drop i = mkStringS kk (ds.drop i)) ∧ Hid (Below w.heap.size w wr)) (fun _ j _ => n - (intOf j).toNat)
  case atStart => exact ⟨0, k, Nat.zero_le _, rfl, rfl, hk0, by omega, ⟨by omega, rfl⟩, Below.refl _ _⟩
  case round =>
    obtain ⟨i, kk, hi, rfl, rfl, h1, h2, HD, HB⟩ := hrel
    by_cases hlt : i < n
    · have hil : i < ds.length := by have := HN.out; omega
      obtain ⟨hkk, hdr⟩ := HD.out
      have hml : i < (mkStringS k ds).length := by rw [mkStringS_len]; exact hil
      obtain ⟨b, off, cs, Lk, rfl, hbL, _, hrep, hc⟩ := H.out.at_ hml
      have hdr2 := hdr
      rw [List.drop_eq_getElem_cons hml, List.drop_eq_getElem_cons hil, mkStringS] at hdr2
      injection hdr2 with e1 e2
      rw [e1] at hrep
      obtain ⟨rfl, _, _⟩ := hrep
      have hbl : b < w.heap.size := H.out.lt b hbL
      have hbr : b < wr.heap.size := Nat.lt_of_lt_of_le hbl HB.out.size
      have q0 := (HB.out.cell (p := ⟨b, off + (i * strC.size + 0), none⟩) hbl).trans (hc 0 _ rfl)
      simp only [show strC.size = 1 from rfl, Nat.mul_one, Nat.add_zero] at q0
      have HDn : Hid (kk + 1 = k + (i + 1 : Nat) ∧ (mkStringS k ds).drop (i + 1) = mkStringS (kk + 1) (ds.drop (i + 1))) := ⟨by omega, e2⟩
      clear hc hkk hdr e1 e2
      have i0 : (0 : Int) ≤ i := by omega
      have i1 : (i : Int) < n := by omega
      go_wp2_with fail
      go_region_held3 (fun w' => w'.cell? ⟨b, off + i, none⟩ = some (.string (mTx kk))) (first | go_keep | exact (hb1.cell (p := ⟨b, off + i, none⟩) hbr).trans q0) (first | (go_at_call 45; refine (markText_int _ _ (by omega) (by omega)).mono ?_; rintro e w1 ⟨rfl, hb1⟩))
      have HBn := Lib.hid (HB.out.trans (below_of_drew hb1 HB.out.size))
      clear hb1
      go_wp2_with fail
      go_roundw
      case rel => exact ⟨i + 1, kk + 1, by omega, by go_num, rfl, by omega, by omega, HDn, HBn⟩
      case measure => simp [intOf]; omega
    · obtain rfl : i = n := by omega
      have hf : Hid (nextStringS k ds = kk) := by
        obtain ⟨h1, _⟩ := HD.out
        have := HN.out; rw [Hid]; simp only [nextStringS]; omega
      go_wp2
      go_ret
      exact ⟨ret_i hf.out.symm, HB.out⟩

set_option maxRecDepth 100000 in
set_option maxHeartbeats 4000000 in
theorem heldFactS_any (A : Option Addr) (n c : Nat) (ds : List FactD) (L : List Nat) (k : Int) (w : World) (hn : n = ds.length) (hm : n ≤ 9223372036854775807) (hk0 : 1 ≤ k) (hk1 : nextFactS k ds ≤ 4611686018427387904) (h : Sli cFact w A (mkFactS k ds) L) :
    Calls Tryz.prog 17 #[.slice A n c, .int .i64 k] w fun e w' => e = .returned (.int .i64 (nextFactS k ds)) ∧ Below w.heap.size w w' := by
  have H := Lib.hid h
  have HN := Lib.hid hn
  have HK := Lib.hid hk1
  clear h hn hk1
  go_enter Tryz.func17, Tryz.ntmps17
  go_wp2
  go_loopw [1, 5] (fun q j wr => ∃ (i : Nat) (kk : Int), i ≤ n ∧ j = .int .i64 i ∧ q = .int .i64 kk ∧ 1 ≤ kk ∧ Hid (nextFactS kk (ds.drop i) = nextFactS k ds ∧ (mkFactS k ds).drop i = mkFactS kk (ds.drop i)) ∧ Hid (Below w.heap.size w wr)) (fun _ j _ => n - (intOf j).toNat)
  case atStart => exact ⟨0, k, Nat.zero_le _, rfl, rfl, hk0, ⟨rfl, rfl⟩, Below.refl _ _⟩
  case round =>
    obtain ⟨i, kk, hi, rfl, rfl, h1, HD, HB⟩ := hrel
    by_cases hlt : i < n
    · have hil : i < ds.length := by have := HN.out; omega
      obtain ⟨hkk, hdr⟩ := HD.out
      have hml : i < (mkFactS k ds).length := by rw [mkFactS_len]; exact hil
      obtain ⟨b, off, cs, Lk, rfl, hbL, hLk, hrep, hc⟩ := H.out.at_ hml
      rw [List.drop_eq_getElem_cons hml, List.drop_eq_getElem_cons hil, mkFactS] at hdr
      injection hdr with e1 e2
      rw [e1] at hrep
      clear e1
      have hnext : ds.drop i = ds[i] :: ds.drop (i + 1) := List.drop_eq_getElem_cons _
      rw [hnext] at hkk
      clear hnext
      generalize ds[i] = x at hrep hkk e2
      have hnb : Hid (nextFact kk x ≤ 4611686018427387904) := by
        have := nextFactS_ge (nextFact kk x) (ds.drop (i + 1))
        have hk := HK.out
        rw [← hkk] at hk
        exact Int.le_trans this hk
      have hnb1 := hnb.out
      have hnb2 := nextFact_ge kk x
      unfold nextFact at hnb1 hnb2
      have HDn : Hid (nextFactS (nextFact kk x) (ds.drop (i + 1)) = nextFactS k ds ∧ (mkFactS k ds).drop (i + 1) = mkFactS (nextFact kk x) (ds.drop (i + 1))) := ⟨hkk, e2⟩
      have hbl : b < w.heap.size := H.out.lt b hbL
      clear hkk e2
      obtain ⟨A1, c1, L1, rfl, hLL, t0, n1, m1, s1⟩ := hrep
      have S1 := Lib.hid s1
      have lL1 : Hid (∀ y ∈ L1, y < w.heap.size) := fun y m => H.out.lt y (hLk y (by rw [hLL]; simp [m]))
      have ll1 : (mkFact kk x).args.length = x.args.length := mkStringS_len _ _
      clear s1
      have Q0 := Lib.hid (hc 0 _ rfl)
      have Q1 := Lib.hid (hc 1 _ rfl)
      unfold maxLen at m1
      rw [ll1] at Q1 n1
      clear hc ll1
      have i0 : (0 : Int) ≤ i := by omega
      have i1 : (i : Int) < n := by omega
      have mono_x_args := nextStringS_ge (kk + 1) x.args
      have q0 : wr.cell? ⟨b, off + i * 2, none⟩ = some (.string (mTx (kk))) := (HB.out.cell (p := ⟨b, off + (i * 2 + 0), none⟩) hbl).trans Q0.out
      have q1 : wr.cell? ⟨b, off + i * 2 + 1, none⟩ = some (.slice A1 x.args.length c1) := (HB.out.cell (p := ⟨b, off + (i * 2 + 1), none⟩) hbl).trans Q1.out
      have hbr : b < wr.heap.size := Nat.lt_of_lt_of_le hbl HB.out.size
      go_wp2_with fail
      go_region_held3 (fun w' => w'.cell? ⟨b, off + i * 2, none⟩ = some (.string (mTx (kk)))) (first | go_keep | exact (hb1.cell (p := ⟨b, off + i * 2, none⟩) hbr).trans q0) (first | (go_at_call 45; refine (markText_int _ _ (by omega) (by omega)).mono ?_; rintro e w1 ⟨rfl, hb1⟩))
      have HB := Lib.hid (HB.out.trans (below_of_drew hb1 HB.out.size))
      clear hb1
      clear q0 q1
      have q0 : w1.cell? ⟨b, off + i * 2, none⟩ = some (.string (mTx (kk))) := (HB.out.cell (p := ⟨b, off + (i * 2 + 0), none⟩) hbl).trans Q0.out
      have q1 : w1.cell? ⟨b, off + i * 2 + 1, none⟩ = some (.slice A1 x.args.length c1) := (HB.out.cell (p := ⟨b, off + (i * 2 + 1), none⟩) hbl).trans Q1.out
      replace hbr : b < w1.heap.size := Nat.lt_of_lt_of_le hbl HB.out.size
      go_wp2_with fail
      refine (heldStringS_any A1 _ c1 x.args L1 _ _ rfl (by omega) (by omega) (S1.out.keep (keep_below HB.out lL1.out))).mono ?_
      rintro e w2 ⟨rfl, hb2⟩
      have HB := Lib.hid (HB.out.trans (hb2.mono HB.out.size))
      clear hb2
      clear q0 q1
      have q0 : w2.cell? ⟨b, off + i * 2, none⟩ = some (.string (mTx (kk))) := (HB.out.cell (p := ⟨b, off + (i * 2 + 0), none⟩) hbl).trans Q0.out
      have q1 : w2.cell? ⟨b, off + i * 2 + 1, none⟩ = some (.slice A1 x.args.length c1) := (HB.out.cell (p := ⟨b, off + (i * 2 + 1), none⟩) hbl).trans Q1.out
      replace hbr : b < w2.heap.size := Nat.lt_of_lt_of_le hbl HB.out.size
      have ge2 : ¬ (nextStringS (kk + 1) x.args < 0) := by omega
      go_wp2_with fail
      go_roundw
      case rel => exact ⟨i + 1, nextFact kk x, by omega, by go_num, rfl, by unfold nextFact; omega, HDn, HB⟩
      case measure => simp [intOf]; omega
    · obtain rfl : i = n := by omega
      have hf : Hid (nextFactS k ds = kk) := by
        obtain ⟨h1, _⟩ := HD.out
        rw [Hid, ← h1, List.drop_of_length_le (by have := HN.out; omega)]; rfl
      go_wp2
      go_ret
      exact ⟨ret_i hf.out.symm, HB.out⟩

end Go.Proofs.YtlkgkkacnoaeaaaGreatDoor

namespace Go.Proofs.YtlkgkkacnoaeaaaGreatDoor
open Go.RowKit Go.Deep

def Opens {α : Type} (P : Program) (t : TypeId) (c : Codec α) (wf : α → Prop) : Prop :=
  ∀ {H : Type} {enc : TypeId × Value → H} {w : World} {base : Nat} {spare : Nat → Bool} {held : Bool} {fuel : Nat} {cs : List Value} {x : DataW H × List MemPlace},
    DataW.trod enc P w base spare held fuel t cs = some x → ∃ d L, c.rep w cs d L ∧ wf d

theorem opens_int {P : Program} {t : TypeId} (ht : P.underlying t = some (.int .i64)) : Opens P t intC wfInt := by
  intro H enc w base spare held fuel cs x h
  obtain ⟨n, rfl, _, hw⟩ := DataW.trod_int ht h
  refine ⟨n, [], ⟨rfl, rfl⟩, ?_⟩
  simp [Lit.wf, IntKind.min, IntKind.max, IntKind.signed, IntKind.bits] at hw
  exact ⟨by omega, by omega⟩
theorem opens_string {P : Program} {t : TypeId} (ht : P.underlying t = some .string) : Opens P t strC (fun _ => True) := by
  intro H enc w base spare held fuel cs x h
  obtain ⟨s, rfl, _, hs⟩ := DataW.trod_string ht h
  exact ⟨s, [], ⟨rfl, rfl, by unfold maxLen at hs; omega⟩, trivial⟩
theorem opens_slice {α : Type} {c : Codec α} {wf : α → Prop} {P : Program} {t e : TypeId} (ht : P.underlying t = some (.slice e)) (hc : P.cellsOf e = c.size) (ho : Opens P e c wf) : Opens P t (sliceC c) (fun ds => ∀ d ∈ ds, wf d) := by
  intro H enc w base spare held fuel cs x h
  rcases open_slice ht h with ⟨rfl, _⟩ | ⟨a, len, cap, m, n, D, Pl, rfl, hb, hl, hm, hmm, _, hx⟩
  · exact ⟨[], [], ⟨none, 0, rfl, Nat.le_refl _, Nat.zero_le _, Sli.nil _ _⟩, by simp⟩
  · have hlm : len ≤ m := by rw [hmm]; split <;> omega
    have key : ∀ q, q ≤ len → ∃ (xs : List Value) (ds : List α) (L : List Nat), ds.length = q ∧ (∀ j u, xs[j]? = some u → w.cell? (a.add j) = some u) ∧ c.reps w xs ds L ∧ ∀ d ∈ ds, wf d := by
      intro q
      induction q with
      | zero => exact fun _ => ⟨[], [], [], rfl, by simp, ⟨rfl, rfl⟩, by simp⟩
      | succ q ih =>
        intro hq
        obtain ⟨xs, ds, L, hd, hcell, hr, hwf⟩ := ih (by omega)
        obtain ⟨cs', h1, h2⟩ := hx q (by omega)
        obtain ⟨d, Lq, hrep, hwd⟩ := ho h2
        obtain ⟨_, hlen, hat⟩ := World.cells?_some h1
        refine ⟨xs ++ cs', ds ++ [d], L ++ Lq, by simp [hd], fun j u hu => ?_, reps_append hr (reps_one_of hrep), ?_⟩
        · have hxl : xs.length = q * c.size := by rw [reps_len hr, hd]
          rw [List.getElem?_append] at hu
          split at hu
          · exact hcell j u hu
          · rename_i hj
            have hj2 := (List.getElem?_eq_some_iff.1 hu).1
            have := hat (j - xs.length) (by omega)
            rw [← hu, ← this, Go.Deep.add_add, hc, ← hxl]
            congr 2
            omega
        · intro y hy
          rcases List.mem_append.1 hy with hy | hy
          · exact hwf y hy
          · simp at hy; subst hy; exact hwd
    obtain ⟨xs, ds, L, hd, hcell, hr, hwf⟩ := key len (Nat.le_refl _)
    have hxl := reps_len hr
    rcases Nat.eq_zero_or_pos len with h0 | h0
    · have : ds = [] := List.eq_nil_of_length_eq_zero (by omega)
      subst this
      refine ⟨[], [], ⟨some a, cap, by simp at hd; rw [← hd]; rfl, by simp, hm, Sli.nil _ _⟩, by simp⟩
    · obtain ⟨b, off, sp⟩ := a
      have hp : 0 < xs.length := by rw [hxl, hd]; exact Nat.mul_pos h0 c.pos
      have hsp : sp = none := by
        have h1 := hcell 0 _ (List.getElem?_eq_getElem hp)
        have e : (⟨b, off, sp⟩ : Addr).add 0 = ⟨b, off, sp⟩ := by simp [Addr.add]
        rw [e] at h1
        cases sp with
        | none => rfl
        | some q =>
          simp only [World.cell?] at h1
          split at h1 <;> simp at h1
      subst hsp
      refine ⟨ds, [b] ++ L, ⟨some ⟨b, off, none⟩, cap, by rw [hd], by omega, hm, xs, [b], L, rfl, ⟨by rw [hxl], .inr ⟨by omega, b, off, rfl, rfl, fun j u hu => ?_⟩⟩, hr⟩, hwf⟩
      have := hcell j u hu
      rwa [add_lit0] at this

end Go.Proofs.YtlkgkkacnoaeaaaGreatDoor

namespace Go.Proofs.YtlkgkkacnoaeaaaGreatDoor
open Go.RowKit

theorem sPossibleFacts_std {aRules : List RuleD} {aBase : List FactD} {r0 : List FactD} {r1 : Bool} (hh : s_PossibleFacts aRules aBase = some (r0, r1)) (w : World) (hj : J0 w) (AaRules : Option Addr) (caRules : Nat) (LaRules : List Nat) (haRules : (sliceC cRule).rep w [.slice AaRules aRules.length caRules] aRules LaRules) (AaBase : Option Addr) (caBase : Nat) (LaBase : List Nat) (haBase : (sliceC cFact).rep w [.slice AaBase aBase.length caBase] aBase LaBase) :
    Calls Tryz.prog 13 #[.slice AaRules aRules.length caRules, .slice AaBase aBase.length caBase] w (GivesSB cFact 57 w r0 r1) :=
  Sound.givesSB (c := cFact) (g := eFact) (ds := r0) (b := r1) (s_PossibleFacts_ok hh) encFact hj (vs := [_, _]) ⟨arg_sl encRule _ haRules, arg_sl encFact _ haBase, trivial⟩

theorem iPossibleFacts_std {aRules : List RuleD} {aBase : List FactD} {r0 : List FactD} {r1 : Bool} (hh : i_PossibleFacts aRules aBase = some (r0, r1)) (w : World) (hj : J0 w) (AaRules : Option Addr) (caRules : Nat) (LaRules : List Nat) (haRules : (sliceC cRule).rep w [.slice AaRules aRules.length caRules] aRules LaRules) (AaBase : Option Addr) (caBase : Nat) (LaBase : List Nat) (haBase : (sliceC cFact).rep w [.slice AaBase aBase.length caBase] aBase LaBase) :
    Calls Tryz.prog 14 #[.slice AaRules aRules.length caRules, .slice AaBase aBase.length caBase] w (GivesSB cFact 57 w r0 r1) :=
  Sound.givesSB (c := cFact) (g := eFact) (ds := r0) (b := r1) (i_PossibleFacts_ok hh) encFact hj (vs := [_, _]) ⟨arg_sl encRule _ haRules, arg_sl encFact _ haBase, trivial⟩

set_option maxRecDepth 100000 in
set_option maxHeartbeats 8000000 in
theorem FnExactPossibleFacts_walk (w : World) (hJ : J0 w) (A_aRules : Option Addr) (c_aRules : Nat) (aRules : List RuleD) (L_aRules : List Nat) (ln_aRules : aRules.length ≤ 9223372036854775807) (h_aRules : Sli cRule w A_aRules aRules L_aRules) (A_aBase : Option Addr) (c_aBase : Nat) (aBase : List FactD) (L_aBase : List Nat) (ln_aBase : aBase.length ≤ 9223372036854775807) (h_aBase : Sli cFact w A_aBase aBase L_aBase) (wf_aRules : (fun ds => ∀ d ∈ ds, wfRule d) aRules) (wf_aBase : (fun ds => ∀ d ∈ ds, wfFact d) aBase) :
    Calls Tryz.prog 4 #[.slice A_aRules aRules.length c_aRules, .slice A_aBase aBase.length c_aBase] w fun e w' => e = .returned (.bool true) ∧ Below w.heap.size w w' := by
  have HJ := Lib.hid hJ
  clear hJ
  have H_aRules := Lib.hid h_aRules
  clear h_aRules
  have H_aBase := Lib.hid h_aBase
  clear h_aBase
  go_enter Tryz.func4, Tryz.ntmps4
  go_wp2_with fail
  refine (szRuleS_any A_aRules _ c_aRules aRules L_aRules _ _ rfl ln_aRules (by omega) (by omega) (H_aRules.out.below (Below.refl w.heap.size w))).mono ?_
  rintro e w1 ⟨rfl, hb⟩
  have B1 := Lib.hid ((Below.refl w.heap.size w).trans (hb.mono (Below.refl w.heap.size w).size))
  have sz1 := hb.size
  clear hb
  by_cases cc_aRules : ((costRuleS aRules : Nat) : Int) ≤ 1048576
  rotate_left
  · rw [szR_neg cc_aRules]
    go_wp2
    go_ret
    exact ⟨rfl, B1.out⟩
  rw [szR_pos cc_aRules]
  have cz_aRules : costRuleS aRules ≤ 1048576 := by omega
  have cl_aRules : aRules.length ≤ 1048576 := by have := cz_aRules; simp only [costRuleS] at this; omega
  have nn_aRules : ¬ (1048576 - ((costRuleS aRules : Nat) : Int) < 0) := by omega
  go_wp2_with fail
  refine (szFactS_any A_aBase _ c_aBase aBase L_aBase _ _ rfl ln_aBase (by omega) (by omega) (H_aBase.out.below B1.out)).mono ?_
  rintro e w2 ⟨rfl, hb⟩
  have B2 := Lib.hid (B1.out.trans (hb.mono B1.out.size))
  have sz2 := hb.size
  clear B1
  clear hb
  by_cases cc_aBase : ((costFactS aBase : Nat) : Int) ≤ 1048576 - ((costRuleS aRules : Nat) : Int)
  rotate_left
  · rw [szR_neg cc_aBase]
    go_wp2
    go_ret
    exact ⟨rfl, B2.out⟩
  rw [szR_pos cc_aBase]
  have cz_aBase : costFactS aBase ≤ 1048576 := by omega
  have cl_aBase : aBase.length ≤ 1048576 := by have := cz_aBase; simp only [costFactS] at this; omega
  have nn_aBase : ¬ (1048576 - ((costRuleS aRules : Nat) : Int) - ((costFactS aBase : Nat) : Int) < 0) := by omega
  obtain ⟨R0, R1, hs0, hi0, rl⟩ := PossibleFacts_plain aRules cz_aRules wf_aRules aBase cz_aBase wf_aBase
  go_wp2_with fail
  refine (toRuleS_any A_aRules _ c_aRules aRules L_aRules _ rfl cz_aRules (H_aRules.out.below B2.out)).mono ?_
  rintro e w3 ⟨v, rfl, acc⟩
  obtain ⟨A_t2aRules, c_t2aRules, rfl⟩ := acc.shape
  have hb := acc.below
  obtain ⟨L_t2aRules, gt⟩ := acc.got
  have B3 := Lib.hid (B2.out.trans (hb.mono B2.out.size))
  have sz3 := hb.size
  clear B2
  have V_t2aRules := Lib.hid gt
  have ge_t2aRules := Lib.hid gt.own.ge
  have lt_t2aRules := Lib.hid gt.lt
  clear gt hb acc
  go_wp2_with fail
  refine (toFactS_any A_aBase _ c_aBase aBase L_aBase _ rfl cz_aBase (H_aBase.out.below B3.out)).mono ?_
  rintro e w4 ⟨v, rfl, acc⟩
  obtain ⟨A_t3aBase, c_t3aBase, rfl⟩ := acc.shape
  have hb := acc.below
  obtain ⟨L_t3aBase, gt⟩ := acc.got
  have B4 := Lib.hid (B3.out.trans (hb.mono B3.out.size))
  have sz4 := hb.size
  have V_t2aRules := Lib.hid (V_t2aRules.out.later hb)
  clear B3
  have V_t3aBase := Lib.hid gt
  have ge_t3aBase := Lib.hid gt.own.ge
  have lt_t3aBase := Lib.hid gt.lt
  clear gt hb acc
  go_wp2_with fail
  refine (sPossibleFacts_std hs0 _ (jok_below hJ0 HJ.out B4.out) A_t2aRules c_t2aRules L_t2aRules V_t2aRules.out.rep A_t3aBase c_t3aBase L_t3aBase V_t3aBase.out.rep).mono ?_
  rintro e w5 ⟨v, rfl, acc⟩
  obtain ⟨A_w0, c_w0, rfl⟩ := acc.shape
  have hb := acc.below
  obtain ⟨L_w0, gt⟩ := acc.got
  have B5 := Lib.hid (B4.out.trans (hb.mono B4.out.size))
  have sz5 := hb.size
  have V_t2aRules := Lib.hid (V_t2aRules.out.later hb)
  have V_t3aBase := Lib.hid (V_t3aBase.out.later hb)
  clear B4
  have V_w0 := Lib.hid gt
  have ge_w0 := Lib.hid gt.own.ge
  have lt_w0 := Lib.hid gt.lt
  clear gt hb acc
  clear V_t2aRules
  clear V_t3aBase
  go_wp2_with fail
  refine (toRuleS_any A_aRules _ c_aRules aRules L_aRules _ rfl cz_aRules (H_aRules.out.below B5.out)).mono ?_
  rintro e w6 ⟨v, rfl, acc⟩
  obtain ⟨A_x0, c_x0, rfl⟩ := acc.shape
  have hb := acc.below
  obtain ⟨L_x0, gt⟩ := acc.got
  have B6 := Lib.hid (B5.out.trans (hb.mono B5.out.size))
  have sz6 := hb.size
  have V_w0 := Lib.hid (V_w0.out.later hb)
  clear B5
  have V_x0 := Lib.hid gt
  have ge_x0 := Lib.hid gt.own.ge
  have lt_x0 := Lib.hid gt.lt
  clear gt hb acc
  go_wp2_with fail
  refine (toFactS_any A_aBase _ c_aBase aBase L_aBase _ rfl cz_aBase (H_aBase.out.below B6.out)).mono ?_
  rintro e w7 ⟨v, rfl, acc⟩
  obtain ⟨A_x1, c_x1, rfl⟩ := acc.shape
  have hb := acc.below
  obtain ⟨L_x1, gt⟩ := acc.got
  have B7 := Lib.hid (B6.out.trans (hb.mono B6.out.size))
  have sz7 := hb.size
  have V_w0 := Lib.hid (V_w0.out.later hb)
  have V_x0 := Lib.hid (V_x0.out.later hb)
  clear B6
  have V_x1 := Lib.hid gt
  have ge_x1 := Lib.hid gt.own.ge
  have lt_x1 := Lib.hid gt.lt
  clear gt hb acc
  go_wp2_with fail
  refine (iPossibleFacts_std hi0 _ (jok_below hJ0 HJ.out B7.out) A_x0 c_x0 L_x0 V_x0.out.rep A_x1 c_x1 L_x1 V_x1.out.rep).mono ?_
  rintro e w8 ⟨v, rfl, acc⟩
  obtain ⟨A_g0, c_g0, rfl⟩ := acc.shape
  have hb := acc.below
  obtain ⟨L_g0, gt⟩ := acc.got
  have B8 := Lib.hid (B7.out.trans (hb.mono B7.out.size))
  have sz8 := hb.size
  have V_w0 := Lib.hid (V_w0.out.later hb)
  have V_x0 := Lib.hid (V_x0.out.later hb)
  have V_x1 := Lib.hid (V_x1.out.later hb)
  clear B7
  have V_g0 := Lib.hid gt
  have ge_g0 := Lib.hid gt.own.ge
  have lt_g0 := Lib.hid gt.lt
  clear gt hb acc
  go_wp2_with fail
  refine (eqFactS_any A_g0 A_w0 _ c_g0 c_w0 _ L_g0 L_w0 _ rfl (by omega) (sliceC_out V_g0.out.rep).2.2 (sliceC_out V_w0.out.rep).2.2).mono ?_
  rintro e w9 ⟨rfl, hb⟩
  have B9 := Lib.hid (B8.out.trans (hb.mono B8.out.size))
  have sz9 := hb.size
  have V_w0 := Lib.hid (V_w0.out.later hb)
  have V_x0 := Lib.hid (V_x0.out.later hb)
  have V_x1 := Lib.hid (V_x1.out.later hb)
  have V_g0 := Lib.hid (V_g0.out.later hb)
  clear B8
  clear hb
  go_wp2_with fail
  refine (toRuleS_any A_aRules _ c_aRules aRules L_aRules _ rfl cz_aRules (H_aRules.out.below B9.out)).mono ?_
  rintro e w10 ⟨v, rfl, acc⟩
  obtain ⟨A_t9aRules, c_t9aRules, rfl⟩ := acc.shape
  have hb := acc.below
  obtain ⟨L_t9aRules, gt⟩ := acc.got
  have B10 := Lib.hid (B9.out.trans (hb.mono B9.out.size))
  have sz10 := hb.size
  have V_w0 := Lib.hid (V_w0.out.later hb)
  have V_x0 := Lib.hid (V_x0.out.later hb)
  have V_x1 := Lib.hid (V_x1.out.later hb)
  have V_g0 := Lib.hid (V_g0.out.later hb)
  clear B9
  have V_t9aRules := Lib.hid gt
  have ge_t9aRules := Lib.hid gt.own.ge
  have lt_t9aRules := Lib.hid gt.lt
  clear gt hb acc
  go_wp2_with fail
  refine (eqRuleS_any A_x0 A_t9aRules _ c_x0 c_t9aRules _ L_x0 L_t9aRules _ rfl (by omega) (sliceC_out V_x0.out.rep).2.2 (sliceC_out V_t9aRules.out.rep).2.2).mono ?_
  rintro e w11 ⟨rfl, hb⟩
  have B11 := Lib.hid (B10.out.trans (hb.mono B10.out.size))
  have sz11 := hb.size
  have V_w0 := Lib.hid (V_w0.out.later hb)
  have V_x0 := Lib.hid (V_x0.out.later hb)
  have V_x1 := Lib.hid (V_x1.out.later hb)
  have V_g0 := Lib.hid (V_g0.out.later hb)
  have V_t9aRules := Lib.hid (V_t9aRules.out.later hb)
  clear B10
  clear hb
  clear V_t9aRules
  go_wp2_with fail
  refine (toFactS_any A_aBase _ c_aBase aBase L_aBase _ rfl cz_aBase (H_aBase.out.below B11.out)).mono ?_
  rintro e w12 ⟨v, rfl, acc⟩
  obtain ⟨A_t11aBase, c_t11aBase, rfl⟩ := acc.shape
  have hb := acc.below
  obtain ⟨L_t11aBase, gt⟩ := acc.got
  have B12 := Lib.hid (B11.out.trans (hb.mono B11.out.size))
  have sz12 := hb.size
  have V_w0 := Lib.hid (V_w0.out.later hb)
  have V_x0 := Lib.hid (V_x0.out.later hb)
  have V_x1 := Lib.hid (V_x1.out.later hb)
  have V_g0 := Lib.hid (V_g0.out.later hb)
  clear B11
  have V_t11aBase := Lib.hid gt
  have ge_t11aBase := Lib.hid gt.own.ge
  have lt_t11aBase := Lib.hid gt.lt
  clear gt hb acc
  go_wp2_with fail
  refine (eqFactS_any A_x1 A_t11aBase _ c_x1 c_t11aBase _ L_x1 L_t11aBase _ rfl (by omega) (sliceC_out V_x1.out.rep).2.2 (sliceC_out V_t11aBase.out.rep).2.2).mono ?_
  rintro e w13 ⟨rfl, hb⟩
  have B13 := Lib.hid (B12.out.trans (hb.mono B12.out.size))
  have sz13 := hb.size
  have V_w0 := Lib.hid (V_w0.out.later hb)
  have V_x0 := Lib.hid (V_x0.out.later hb)
  have V_x1 := Lib.hid (V_x1.out.later hb)
  have V_g0 := Lib.hid (V_g0.out.later hb)
  have V_t11aBase := Lib.hid (V_t11aBase.out.later hb)
  clear B12
  clear hb
  clear V_t11aBase
  have nl_x0_13 := nextRuleS_le ((1 : Int)) aRules
  have nb_x0_13 : nextRuleS ((1 : Int)) aRules ≤ 4611686018427387904 := by omega
  have ng_x0_13 := nextRuleS_ge ((1 : Int)) aRules
  go_wp2_with fail
  refine (markRuleS_any A_x0 _ c_x0 aRules L_x0 _ _ _ rfl (by omega) (by omega) (by omega) V_x0.out).mono ?_
  rintro e w14 ⟨rfl, gm, on⟩
  have B14 := Lib.hid (B13.out.trans (on.below B13.out.size (fun y m => by have := ge_x0.out y m; omega)))
  have sz14 := on.size
  have V_w0 := Lib.hid (V_w0.out.only on (fun y m m' => by have := lt_w0.out y m; have := ge_x0.out y m'; omega))
  have V_x1 := Lib.hid (V_x1.out.only on (fun y m m' => by have := ge_x1.out y m; have := lt_x0.out y m'; omega))
  have V_g0 := Lib.hid (V_g0.out.only on (fun y m m' => by have := ge_g0.out y m; have := lt_x0.out y m'; omega))
  clear B13
  have V_x0 := Lib.hid gm
  clear gm on
  clear V_x0
  have nl_x1_14 := nextFactS_le (nextRuleS ((1 : Int)) aRules) aBase
  have nb_x1_14 : nextFactS (nextRuleS ((1 : Int)) aRules) aBase ≤ 4611686018427387904 := by omega
  have ng_x1_14 := nextFactS_ge (nextRuleS ((1 : Int)) aRules) aBase
  go_wp2_with fail
  refine (markFactS_any A_x1 _ c_x1 aBase L_x1 _ _ _ rfl (by omega) (by omega) (by omega) V_x1.out).mono ?_
  rintro e w15 ⟨rfl, gm, on⟩
  have B15 := Lib.hid (B14.out.trans (on.below B14.out.size (fun y m => by have := ge_x1.out y m; omega)))
  have sz15 := on.size
  have V_w0 := Lib.hid (V_w0.out.only on (fun y m m' => by have := lt_w0.out y m; have := ge_x1.out y m'; omega))
  have V_g0 := Lib.hid (V_g0.out.only on (fun y m m' => by have := ge_g0.out y m; have := lt_x1.out y m'; omega))
  clear B14
  have V_x1 := Lib.hid gm
  clear gm on
  clear V_x1
  have kn : ¬ (nextFactS (nextRuleS ((1 : Int)) aRules) aBase < 0) := by omega
  go_wp2_with fail
  refine (eqFactS_any A_g0 A_w0 _ c_g0 c_w0 _ L_g0 L_w0 _ rfl (by omega) (sliceC_out V_g0.out.rep).2.2 (sliceC_out V_w0.out.rep).2.2).mono ?_
  rintro e w16 ⟨rfl, hb⟩
  have B16 := Lib.hid (B15.out.trans (hb.mono B15.out.size))
  have sz16 := hb.size
  have V_w0 := Lib.hid (V_w0.out.later hb)
  have V_g0 := Lib.hid (V_g0.out.later hb)
  clear B15
  clear hb
  have nl_g0_16 := nextFactS_le ((1 : Int)) R0
  have nb_g0_16 : nextFactS ((1 : Int)) R0 ≤ 4611686018427387904 := by omega
  have ng_g0_16 := nextFactS_ge ((1 : Int)) R0
  go_wp2_with fail
  refine (markFactS_any A_g0 _ c_g0 R0 L_g0 _ _ _ rfl (by omega) (by omega) (by omega) V_g0.out).mono ?_
  rintro e w17 ⟨rfl, gm, on⟩
  have B17 := Lib.hid (B16.out.trans (on.below B16.out.size (fun y m => by have := ge_g0.out y m; omega)))
  have sz17 := on.size
  have V_w0 := Lib.hid (V_w0.out.only on (fun y m m' => by have := lt_w0.out y m; have := ge_g0.out y m'; omega))
  clear B16
  have V_g0 := Lib.hid gm
  clear gm on
  go_wp2_with fail
  refine (heldFactS_any A_g0 _ c_g0 R0 L_g0 _ _ rfl (by omega) (by omega) (by omega) (sliceC_out V_g0.out.rep).2.2).mono ?_
  rintro e w18 ⟨rfl, hb⟩
  have B18 := Lib.hid (B17.out.trans (hb.mono B17.out.size))
  have sz18 := hb.size
  have V_w0 := Lib.hid (V_w0.out.later hb)
  have V_g0 := Lib.hid (V_g0.out.later hb)
  clear B17
  clear hb
  have qn18 : ¬ (nextFactS ((1 : Int)) R0 < 0) := by omega
  have qm18 : ((nextFactS ((1 : Int)) R0) != (nextFactS ((1 : Int)) R0)) = false := by simp
  go_wp2_with fail
  refine (toRuleS_any A_aRules _ c_aRules aRules L_aRules _ rfl cz_aRules (H_aRules.out.below B18.out)).mono ?_
  rintro e w19 ⟨v, rfl, acc⟩
  obtain ⟨A_t18aRules, c_t18aRules, rfl⟩ := acc.shape
  have hb := acc.below
  obtain ⟨L_t18aRules, gt⟩ := acc.got
  have B19 := Lib.hid (B18.out.trans (hb.mono B18.out.size))
  have sz19 := hb.size
  have V_w0 := Lib.hid (V_w0.out.later hb)
  have V_g0 := Lib.hid (V_g0.out.later hb)
  clear B18
  have V_t18aRules := Lib.hid gt
  have ge_t18aRules := Lib.hid gt.own.ge
  have lt_t18aRules := Lib.hid gt.lt
  clear gt hb acc
  go_wp2_with fail
  refine (toFactS_any A_aBase _ c_aBase aBase L_aBase _ rfl cz_aBase (H_aBase.out.below B19.out)).mono ?_
  rintro e w20 ⟨v, rfl, acc⟩
  obtain ⟨A_t19aBase, c_t19aBase, rfl⟩ := acc.shape
  have hb := acc.below
  obtain ⟨L_t19aBase, gt⟩ := acc.got
  have B20 := Lib.hid (B19.out.trans (hb.mono B19.out.size))
  have sz20 := hb.size
  have V_w0 := Lib.hid (V_w0.out.later hb)
  have V_g0 := Lib.hid (V_g0.out.later hb)
  have V_t18aRules := Lib.hid (V_t18aRules.out.later hb)
  clear B19
  have V_t19aBase := Lib.hid gt
  have ge_t19aBase := Lib.hid gt.own.ge
  have lt_t19aBase := Lib.hid gt.lt
  clear gt hb acc
  go_wp2_with fail
  refine (iPossibleFacts_std hi0 _ (jok_below hJ0 HJ.out B20.out) A_t18aRules c_t18aRules L_t18aRules V_t18aRules.out.rep A_t19aBase c_t19aBase L_t19aBase V_t19aBase.out.rep).mono ?_
  rintro e w21 ⟨v, rfl, acc⟩
  obtain ⟨A_h0, c_h0, rfl⟩ := acc.shape
  have hb := acc.below
  obtain ⟨L_h0, gt⟩ := acc.got
  have B21 := Lib.hid (B20.out.trans (hb.mono B20.out.size))
  have sz21 := hb.size
  have V_w0 := Lib.hid (V_w0.out.later hb)
  have V_g0 := Lib.hid (V_g0.out.later hb)
  have V_t18aRules := Lib.hid (V_t18aRules.out.later hb)
  have V_t19aBase := Lib.hid (V_t19aBase.out.later hb)
  clear B20
  have V_h0 := Lib.hid gt
  have ge_h0 := Lib.hid gt.own.ge
  have lt_h0 := Lib.hid gt.lt
  clear gt hb acc
  clear V_t18aRules
  clear V_t19aBase
  go_wp2_with fail
  refine (eqFactS_any A_h0 A_w0 _ c_h0 c_w0 _ L_h0 L_w0 _ rfl (by omega) (sliceC_out V_h0.out.rep).2.2 (sliceC_out V_w0.out.rep).2.2).mono ?_
  rintro e w22 ⟨rfl, hb⟩
  have B22 := Lib.hid (B21.out.trans (hb.mono B21.out.size))
  have sz22 := hb.size
  have V_w0 := Lib.hid (V_w0.out.later hb)
  have V_g0 := Lib.hid (V_g0.out.later hb)
  have V_h0 := Lib.hid (V_h0.out.later hb)
  clear B21
  clear hb
  go_wp2_with fail
  refine (heldFactS_any A_g0 _ c_g0 R0 L_g0 _ _ rfl (by omega) (by omega) (by omega) (sliceC_out V_g0.out.rep).2.2).mono ?_
  rintro e w23 ⟨rfl, hb⟩
  have B23 := Lib.hid (B22.out.trans (hb.mono B22.out.size))
  have sz23 := hb.size
  have V_w0 := Lib.hid (V_w0.out.later hb)
  have V_g0 := Lib.hid (V_g0.out.later hb)
  have V_h0 := Lib.hid (V_h0.out.later hb)
  clear B22
  clear hb
  have qn23 : ¬ (nextFactS ((1 : Int)) R0 < 0) := by omega
  have qm23 : ((nextFactS ((1 : Int)) R0) != (nextFactS ((1 : Int)) R0)) = false := by simp
  go_wp2_with fail
  go_ret
  exact ⟨rfl, B23.out⟩

end Go.Proofs.YtlkgkkacnoaeaaaGreatDoor

namespace Go.Proofs.YtlkgkkacnoaeaaaGreatDoor
open Go.RowKit

set_option maxRecDepth 100000 in
theorem opensFact : Opens Tryz.prog 46 cFact wfFact := by
  intro H enc w base spare held fuel cs x h
  obtain ⟨xs, n, _, _, hlen, hxl, hf⟩ := DataW.trod_struct Tryz.underlying46 h
  have hl : cs.length = 2 := hlen.trans (by kernel_rfl)
  have hx : xs.length = 2 := hxl
  match cs, hl with
  | [a0, a1], _ =>
    have f0 : DataW.trod enc Tryz.prog w base spare held n 9 [a0] = some (xs[0]'(by omega)) := by
      have this : DataW.trod enc Tryz.prog w base spare held n 9 (List.take (Tryz.prog.cellsOf 9) (List.drop 0 [a0, a1])) = _ := (hf 0 _ rfl).trans (List.getElem?_eq_getElem (show 0 < xs.length by omega))
      rw [show Tryz.prog.cellsOf 9 = 1 by kernel_rfl] at this
      exact this
    have f1 : DataW.trod enc Tryz.prog w base spare held n 44 [a1] = some (xs[1]'(by omega)) := by
      have this : DataW.trod enc Tryz.prog w base spare held n 44 (List.take (Tryz.prog.cellsOf 44) (List.drop 1 [a0, a1])) = _ := (hf 1 _ rfl).trans (List.getElem?_eq_getElem (show 1 < xs.length by omega))
      rw [show Tryz.prog.cellsOf 44 = 1 by kernel_rfl] at this
      exact this
    obtain ⟨d0, M0, r0, w0⟩ := (opens_string Tryz.underlying9) f0
    obtain ⟨e0, _, t0⟩ := r0
    cases e0
    obtain ⟨d1, M1, r1, w1⟩ := (opens_slice Tryz.underlying44 (by kernel_rfl) (opens_string Tryz.underlying9)) f1
    obtain ⟨A1, c1, e1, n1, m1, s1⟩ := r1
    cases e1
    exact ⟨⟨d0, d1⟩, _, ⟨A1, c1, M1, rfl, rfl, t0, n1, m1, s1⟩, ⟨w0, w1⟩⟩

set_option maxRecDepth 100000 in
theorem opensPattern : Opens Tryz.prog 110 cPattern wfPattern := by
  intro H enc w base spare held fuel cs x h
  obtain ⟨xs, n, _, _, hlen, hxl, hf⟩ := DataW.trod_struct Tryz.underlying110 h
  have hl : cs.length = 2 := hlen.trans (by kernel_rfl)
  have hx : xs.length = 2 := hxl
  match cs, hl with
  | [a0, a1], _ =>
    have f0 : DataW.trod enc Tryz.prog w base spare held n 9 [a0] = some (xs[0]'(by omega)) := by
      have this : DataW.trod enc Tryz.prog w base spare held n 9 (List.take (Tryz.prog.cellsOf 9) (List.drop 0 [a0, a1])) = _ := (hf 0 _ rfl).trans (List.getElem?_eq_getElem (show 0 < xs.length by omega))
      rw [show Tryz.prog.cellsOf 9 = 1 by kernel_rfl] at this
      exact this
    have f1 : DataW.trod enc Tryz.prog w base spare held n 44 [a1] = some (xs[1]'(by omega)) := by
      have this : DataW.trod enc Tryz.prog w base spare held n 44 (List.take (Tryz.prog.cellsOf 44) (List.drop 1 [a0, a1])) = _ := (hf 1 _ rfl).trans (List.getElem?_eq_getElem (show 1 < xs.length by omega))
      rw [show Tryz.prog.cellsOf 44 = 1 by kernel_rfl] at this
      exact this
    obtain ⟨d0, M0, r0, w0⟩ := (opens_string Tryz.underlying9) f0
    obtain ⟨e0, _, t0⟩ := r0
    cases e0
    obtain ⟨d1, M1, r1, w1⟩ := (opens_slice Tryz.underlying44 (by kernel_rfl) (opens_string Tryz.underlying9)) f1
    obtain ⟨A1, c1, e1, n1, m1, s1⟩ := r1
    cases e1
    exact ⟨⟨d0, d1⟩, _, ⟨A1, c1, M1, rfl, rfl, t0, n1, m1, s1⟩, ⟨w0, w1⟩⟩

set_option maxRecDepth 100000 in
theorem opensCond : Opens Tryz.prog 112 cCond wfCond := by
  intro H enc w base spare held fuel cs x h
  obtain ⟨xs, n, _, _, hlen, hxl, hf⟩ := DataW.trod_struct Tryz.underlying112 h
  have hl : cs.length = 5 := hlen.trans (by kernel_rfl)
  have hx : xs.length = 4 := hxl
  match cs, hl with
  | [a0, a1, a2, a3, a4], _ =>
    have f0 : DataW.trod enc Tryz.prog w base spare held n 3 [a0] = some (xs[0]'(by omega)) := by
      have this : DataW.trod enc Tryz.prog w base spare held n 3 (List.take (Tryz.prog.cellsOf 3) (List.drop 0 [a0, a1, a2, a3, a4])) = _ := (hf 0 _ rfl).trans (List.getElem?_eq_getElem (show 0 < xs.length by omega))
      rw [show Tryz.prog.cellsOf 3 = 1 by kernel_rfl] at this
      exact this
    have f1 : DataW.trod enc Tryz.prog w base spare held n 110 [a1, a2] = some (xs[1]'(by omega)) := by
      have this : DataW.trod enc Tryz.prog w base spare held n 110 (List.take (Tryz.prog.cellsOf 110) (List.drop 1 [a0, a1, a2, a3, a4])) = _ := (hf 1 _ rfl).trans (List.getElem?_eq_getElem (show 1 < xs.length by omega))
      rw [show Tryz.prog.cellsOf 110 = 2 by kernel_rfl] at this
      exact this
    have f2 : DataW.trod enc Tryz.prog w base spare held n 9 [a3] = some (xs[2]'(by omega)) := by
      have this : DataW.trod enc Tryz.prog w base spare held n 9 (List.take (Tryz.prog.cellsOf 9) (List.drop 3 [a0, a1, a2, a3, a4])) = _ := (hf 2 _ rfl).trans (List.getElem?_eq_getElem (show 2 < xs.length by omega))
      rw [show Tryz.prog.cellsOf 9 = 1 by kernel_rfl] at this
      exact this
    have f3 : DataW.trod enc Tryz.prog w base spare held n 9 [a4] = some (xs[3]'(by omega)) := by
      have this : DataW.trod enc Tryz.prog w base spare held n 9 (List.take (Tryz.prog.cellsOf 9) (List.drop 4 [a0, a1, a2, a3, a4])) = _ := (hf 3 _ rfl).trans (List.getElem?_eq_getElem (show 3 < xs.length by omega))
      rw [show Tryz.prog.cellsOf 9 = 1 by kernel_rfl] at this
      exact this
    obtain ⟨d0, M0, r0, w0⟩ := (opens_int Tryz.underlying3) f0
    obtain ⟨e0, _⟩ := r0
    cases e0
    obtain ⟨d1, M1, r1, w1⟩ := opensPattern f1
    obtain ⟨A1, c1, N1, e1, g1, t0, n1, m1, s1⟩ := r1
    cases e1
    subst g1
    obtain ⟨d2, M2, r2, w2⟩ := (opens_string Tryz.underlying9) f2
    obtain ⟨e2, _, t1⟩ := r2
    cases e2
    obtain ⟨d3, M3, r3, w3⟩ := (opens_string Tryz.underlying9) f3
    obtain ⟨e3, _, t2⟩ := r3
    cases e3
    exact ⟨⟨d0, d1, d2, d3⟩, _, ⟨A1, c1, M1, rfl, rfl, t0, t1, t2, n1, m1, s1⟩, ⟨w0, w1, w2, w3⟩⟩

set_option maxRecDepth 100000 in
theorem opensAction : Opens Tryz.prog 115 cAction wfAction := by
  intro H enc w base spare held fuel cs x h
  obtain ⟨xs, n, _, _, hlen, hxl, hf⟩ := DataW.trod_struct Tryz.underlying115 h
  have hl : cs.length = 3 := hlen.trans (by kernel_rfl)
  have hx : xs.length = 2 := hxl
  match cs, hl with
  | [a0, a1, a2], _ =>
    have f0 : DataW.trod enc Tryz.prog w base spare held n 3 [a0] = some (xs[0]'(by omega)) := by
      have this : DataW.trod enc Tryz.prog w base spare held n 3 (List.take (Tryz.prog.cellsOf 3) (List.drop 0 [a0, a1, a2])) = _ := (hf 0 _ rfl).trans (List.getElem?_eq_getElem (show 0 < xs.length by omega))
      rw [show Tryz.prog.cellsOf 3 = 1 by kernel_rfl] at this
      exact this
    have f1 : DataW.trod enc Tryz.prog w base spare held n 110 [a1, a2] = some (xs[1]'(by omega)) := by
      have this : DataW.trod enc Tryz.prog w base spare held n 110 (List.take (Tryz.prog.cellsOf 110) (List.drop 1 [a0, a1, a2])) = _ := (hf 1 _ rfl).trans (List.getElem?_eq_getElem (show 1 < xs.length by omega))
      rw [show Tryz.prog.cellsOf 110 = 2 by kernel_rfl] at this
      exact this
    obtain ⟨d0, M0, r0, w0⟩ := (opens_int Tryz.underlying3) f0
    obtain ⟨e0, _⟩ := r0
    cases e0
    obtain ⟨d1, M1, r1, w1⟩ := opensPattern f1
    obtain ⟨A1, c1, N1, e1, g1, t0, n1, m1, s1⟩ := r1
    cases e1
    subst g1
    exact ⟨⟨d0, d1⟩, _, ⟨A1, c1, M1, rfl, rfl, t0, n1, m1, s1⟩, ⟨w0, w1⟩⟩

set_option maxRecDepth 100000 in
theorem opensRule : Opens Tryz.prog 42 cRule wfRule := by
  intro H enc w base spare held fuel cs x h
  obtain ⟨xs, n, _, _, hlen, hxl, hf⟩ := DataW.trod_struct Tryz.underlying42 h
  have hl : cs.length = 4 := hlen.trans (by kernel_rfl)
  have hx : xs.length = 4 := hxl
  match cs, hl with
  | [a0, a1, a2, a3], _ =>
    have f0 : DataW.trod enc Tryz.prog w base spare held n 9 [a0] = some (xs[0]'(by omega)) := by
      have this : DataW.trod enc Tryz.prog w base spare held n 9 (List.take (Tryz.prog.cellsOf 9) (List.drop 0 [a0, a1, a2, a3])) = _ := (hf 0 _ rfl).trans (List.getElem?_eq_getElem (show 0 < xs.length by omega))
      rw [show Tryz.prog.cellsOf 9 = 1 by kernel_rfl] at this
      exact this
    have f1 : DataW.trod enc Tryz.prog w base spare held n 3 [a1] = some (xs[1]'(by omega)) := by
      have this : DataW.trod enc Tryz.prog w base spare held n 3 (List.take (Tryz.prog.cellsOf 3) (List.drop 1 [a0, a1, a2, a3])) = _ := (hf 1 _ rfl).trans (List.getElem?_eq_getElem (show 1 < xs.length by omega))
      rw [show Tryz.prog.cellsOf 3 = 1 by kernel_rfl] at this
      exact this
    have f2 : DataW.trod enc Tryz.prog w base spare held n 39 [a2] = some (xs[2]'(by omega)) := by
      have this : DataW.trod enc Tryz.prog w base spare held n 39 (List.take (Tryz.prog.cellsOf 39) (List.drop 2 [a0, a1, a2, a3])) = _ := (hf 2 _ rfl).trans (List.getElem?_eq_getElem (show 2 < xs.length by omega))
      rw [show Tryz.prog.cellsOf 39 = 1 by kernel_rfl] at this
      exact this
    have f3 : DataW.trod enc Tryz.prog w base spare held n 40 [a3] = some (xs[3]'(by omega)) := by
      have this : DataW.trod enc Tryz.prog w base spare held n 40 (List.take (Tryz.prog.cellsOf 40) (List.drop 3 [a0, a1, a2, a3])) = _ := (hf 3 _ rfl).trans (List.getElem?_eq_getElem (show 3 < xs.length by omega))
      rw [show Tryz.prog.cellsOf 40 = 1 by kernel_rfl] at this
      exact this
    obtain ⟨d0, M0, r0, w0⟩ := (opens_string Tryz.underlying9) f0
    obtain ⟨e0, _, t0⟩ := r0
    cases e0
    obtain ⟨d1, M1, r1, w1⟩ := (opens_int Tryz.underlying3) f1
    obtain ⟨e1, _⟩ := r1
    cases e1
    obtain ⟨d2, M2, r2, w2⟩ := (opens_slice Tryz.underlying39 (by kernel_rfl) opensCond) f2
    obtain ⟨A1, c1, e2, n1, m1, s1⟩ := r2
    cases e2
    obtain ⟨d3, M3, r3, w3⟩ := (opens_slice Tryz.underlying40 (by kernel_rfl) opensAction) f3
    obtain ⟨A2, c2, e3, n2, m2, s2⟩ := r3
    cases e3
    exact ⟨⟨d0, d1, d2, d3⟩, _, ⟨A1, c1, M2, A2, c2, M3, rfl, rfl, t0, n1, m1, s1, n2, m2, s2⟩, ⟨w0, w1, w2, w3⟩⟩

end Go.Proofs.YtlkgkkacnoaeaaaGreatDoor
