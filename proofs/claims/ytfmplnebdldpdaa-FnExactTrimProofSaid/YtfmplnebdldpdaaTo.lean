/- Contracts of the law files' to.. functions. Printed by gen.py. -/
import Derived.Test.YtfmplnebdldpdaaProg
import Derived.Test.YtfmplnebdldpdaaTypes
import Derived.Outline
import Derived.WalkSpells
import Derived.StillTailTactics
namespace Go.Proofs.Ytfmplnebdldpdaa
open Go.RowKit

theorem Try.infoString_ : (Try.prog.info? 9).map (fun i => (i.zero, i.size, i.bytes)) = some (some (.string ⟨#[]⟩), 1, 16) := by kernel_rfl
set_option maxHeartbeats 1600000 in
theorem toStringS_any (A : Option Addr) (n c : Nat) (ds : List ByteArray) (L : List Nat) (w : World) (hn : n = ds.length) (hm : ds.length ≤ 1099511627776) (h : Sli strC w A ds L) :
    Calls Try.prog 60 #[.slice A n c] w (GivesS strC 9 w ds) := by
  obtain ⟨i0, hi, hz0, hz1, hz2⟩ := info_parts Try.infoString_
  rw [← hn] at hm
  have H := Lib.hid h
  have HN := Lib.hid hn
  clear h hn
  go_enter Try.func60, Try.ntmps60
  go_wp2_with (at_make; refine wpList_make_full _ rfl _ _ 47 rfl w.heap.size 9 i0 _ 1 Try.underlying47 hi hz0 hz1 .i64 .i64 _ _ n rfl rfl rfl rfl (by rw [hz2]; omega) (by unfold maxLen; omega) (Nat.le_refl _) ?_; intro w1 hown hg)
  have hb : Below w.heap.size w w1 := (Below.refl _ _).grown hg (Nat.le_refl _) (by simp)
  have HF0 : Hid (Filling strC 9 w n ds 0 w1) := Filling.start hown hb
  clear hown hg hb
  go_wp2
  go_loopw [4] (fun i wr => ∃ (k : Nat), k ≤ n ∧ i = .int .i64 k ∧ Hid (Filling strC 9 w n ds k wr)) (fun i _ => n - (intOf i).toNat)
  case atStart => exact ⟨0, Nat.zero_le _, rfl, HF0⟩
  case round =>
    obtain ⟨k, hk, rfl, HF⟩ := hrel
    by_cases hlt : k < n
    · have hkl : k < ds.length := by have := HN.out; omega
      obtain ⟨b, off, cs, Lk, rfl, hbL, hLk, hrep, hc⟩ := H.out.at_ hkl
      have hbl : b < w.heap.size := H.out.lt b hbL
      have hrep0 := hrep
      obtain ⟨rfl, _, hss⟩ := hrep0
      have q0 := (HF.out.below.cell (p := ⟨b, off + (k * strC.size + 0), none⟩) hbl).trans (hc 0 _ rfl)
      have HS := Lib.hid (HF.out.store (w2 := wr) (x := ds[k]) (M := []) hlt HN.out (fun _ => rfl) (Below.refl _ _) ⟨⟨rfl, rfl, hss⟩, Own.nil _ _⟩)
      obtain ⟨d0, e0⟩ := HF.out.cell hlt (j := 0) (by decide)
      have z0 := HF.out.frozen k
      simp only [show strC.size = 1 from rfl, Nat.mul_one, Nat.add_zero] at q0 HS e0
      generalize ds[k] = x at *
      clear hc hrep
      go_wp2_with fail
      go_roundw
      case rel => exact ⟨k + 1, by omega, by go_num, HS.out⟩
      case measure => simp [intOf]; omega
    · obtain rfl : k = n := by omega
      go_wp2
      go_ret
      exact ⟨_, rfl, HF.out.done HN.out⟩

theorem Try.infoInt_ : (Try.prog.info? 3).map (fun i => (i.zero, i.size, i.bytes)) = some (some (.int .i64 0), 1, 8) := by kernel_rfl
set_option maxHeartbeats 1600000 in
theorem toIntS_any (A : Option Addr) (n c : Nat) (ds : List Int) (L : List Nat) (w : World) (hn : n = ds.length) (hm : ds.length ≤ 1099511627776) (h : Sli intC w A ds L) :
    Calls Try.prog 19 #[.slice A n c] w (GivesS intC 3 w ds) := by
  obtain ⟨i0, hi, hz0, hz1, hz2⟩ := info_parts Try.infoInt_
  rw [← hn] at hm
  have H := Lib.hid h
  have HN := Lib.hid hn
  clear h hn
  go_enter Try.func19, Try.ntmps19
  go_wp2_with (at_make; refine wpList_make_full _ rfl _ _ 32 rfl w.heap.size 3 i0 _ 1 Try.underlying32 hi hz0 hz1 .i64 .i64 _ _ n rfl rfl rfl rfl (by rw [hz2]; omega) (by unfold maxLen; omega) (Nat.le_refl _) ?_; intro w1 hown hg)
  have hb : Below w.heap.size w w1 := (Below.refl _ _).grown hg (Nat.le_refl _) (by simp)
  have HF0 : Hid (Filling intC 3 w n ds 0 w1) := Filling.start hown hb
  clear hown hg hb
  go_wp2
  go_loopw [4] (fun i wr => ∃ (k : Nat), k ≤ n ∧ i = .int .i64 k ∧ Hid (Filling intC 3 w n ds k wr)) (fun i _ => n - (intOf i).toNat)
  case atStart => exact ⟨0, Nat.zero_le _, rfl, HF0⟩
  case round =>
    obtain ⟨k, hk, rfl, HF⟩ := hrel
    by_cases hlt : k < n
    · have hkl : k < ds.length := by have := HN.out; omega
      obtain ⟨b, off, cs, Lk, rfl, hbL, hLk, hrep, hc⟩ := H.out.at_ hkl
      have hbl : b < w.heap.size := H.out.lt b hbL
      have hrep0 := hrep
      obtain ⟨rfl, _⟩ := hrep0
      have q0 := (HF.out.below.cell (p := ⟨b, off + (k * intC.size + 0), none⟩) hbl).trans (hc 0 _ rfl)
      have HS := Lib.hid (HF.out.store (w2 := wr) (x := ds[k]) (M := []) hlt HN.out (fun _ => rfl) (Below.refl _ _) ⟨⟨rfl, rfl⟩, Own.nil _ _⟩)
      obtain ⟨d0, e0⟩ := HF.out.cell hlt (j := 0) (by decide)
      have z0 := HF.out.frozen k
      simp only [show intC.size = 1 from rfl, Nat.mul_one, Nat.add_zero] at q0 HS e0
      generalize ds[k] = x at *
      clear hc hrep
      go_wp2_with fail
      go_roundw
      case rel => exact ⟨k + 1, by omega, by go_num, HS.out⟩
      case measure => simp [intOf]; omega
    · obtain rfl : k = n := by omega
      go_wp2
      go_ret
      exact ⟨_, rfl, HF.out.done HN.out⟩

set_option maxHeartbeats 1600000 in
theorem toFact_any (cs : List Value) (x : FactD) (L : List Nat) (w : World) (hz : costFact x ≤ 1048576) (h : cFact.rep w cs x L) :
    Calls Try.prog 51 #[.agg cs.toArray] w (Gives cFact w x) := by
  obtain ⟨A1, c1, L1, rfl, _hL, t0, n1, m1, s1⟩ := h
  unfold maxLen at m1
  have S1 := Lib.hid s1
  clear s1
  simp only [costFact] at hz
  go_enter Try.func51, Try.ntmps51
  go_wp2_with fail
  refine (toStringS_any A1 _ c1 x.args L1 _ rfl (by simp only [costStrs] at hz; omega) (S1.out.below (by repeat (first | refine Below.setCell ?_ (by dsimp only; omega) _ | refine Below.alloc ?_ (by first | (simp; done) | (simp; omega) | omega) _ | exact Below.refl _ _)))).mono ?_
  rintro e w1 ⟨v1, rfl, a1⟩
  obtain ⟨vA1, vc1, rfl⟩ := a1.shape
  have hb1 := a1.below
  obtain ⟨M1, g1⟩ := a1.got
  clear a1
  have G1 := Lib.hid (g1.mono (show w.heap.size + 3 ≤ _ by simp))
  have lt1 := Lib.hid g1.lt
  clear g1
  have B1 : Hid (Below w.heap.size w w1) := Below.trans (by repeat (first | refine Below.setCell ?_ (by dsimp only; omega) _ | refine Below.alloc ?_ (by first | (simp; done) | (simp; omega) | omega) _ | exact Below.refl _ _)) (hb1.mono (by first | (simp; done) | (simp; omega) | omega))
  have K0 : Hid (Blk w1 w.heap.size 49 #[.string x.rel, .slice A1 x.args.length c1]) := Blk.later (Blk.alloc (Blk.alloc (Blk.new _ _ _) _) _) hb1
  have K1 : Hid (Blk w1 (w.heap.size + 1) 52 #[.string ⟨#[]⟩, .slice none 0 0]) := Blk.later (Blk.alloc (Blk.new_at (by simp)) _) hb1
  have K2 : Hid (Blk w1 (w.heap.size + 1 + 1) 52 #[.string x.rel, .slice none 0 0]) := Blk.later (Blk.new_at (by simp)) hb1
  have f0 := K0.out.at (i := 0) rfl
  have r0 := K1.out.at (i := 0) rfl
  have o0 := K2.out.at (i := 0) rfl
  have rz0 := K1.out.frozen 0
  have oz0 := K2.out.frozen 0
  have f1 := K0.out.at (i := 1) rfl
  have r1 := K1.out.at (i := 1) rfl
  have o1 := K2.out.at (i := 1) rfl
  have rz1 := K1.out.frozen 1
  have oz1 := K2.out.frozen 1
  have hz1 : w.heap.size + 2 < w1.heap.size := by have := hb1.size; simp at this; omega
  clear hb1
  go_wp2_with fail
  refine bodyPost_ret (v := .agg #[.string x.rel, .slice vA1 x.args.length vc1]) (by simp [results, Try.results51, go_sem, r0, r1]) rfl ?_
  obtain ⟨nn1, mm1, ss1⟩ := sliceC_out G1.out.rep
  exact gives_of (wr := w1) (M1) ⟨⟨vA1, vc1, M1, rfl, rfl, t0, nn1, mm1, ss1⟩, by have o := G1.out.own; simpa only [List.append_assoc] using o⟩ (by intro b hb; repeat rw [Below.heap_setCell _ _ _ _ (by dsimp only; omega)]) (by repeat (first | refine Below.setCell ?_ (by dsimp only; omega) _ | refine Below.alloc ?_ (by first | (simp; done) | (simp; omega) | omega) _ | exact B1.out))

set_option maxHeartbeats 1600000 in
theorem toStep_any (cs : List Value) (x : StepD) (L : List Nat) (w : World) (hz : costStep x ≤ 1048576) (h : cStep.rep w cs x L) :
    Calls Try.prog 35 #[.agg cs.toArray] w (Gives cStep w x) := by
  obtain ⟨A1, c1, L1, A2, c2, L2, rfl, _hL, t0, t1, n1, m1, s1, n2, m2, s2⟩ := h
  unfold maxLen at m1 m2
  have S1 := Lib.hid s1
  clear s1
  have S2 := Lib.hid s2
  clear s2
  simp only [costStep] at hz
  go_enter Try.func35, Try.ntmps35
  go_wp2_with fail
  refine (toFact_any [.string x.fact.rel, .slice A1 x.fact.args.length c1] x.fact _ _ (by omega) ⟨A1, c1, L1, rfl, rfl, t0, n1, (by unfold maxLen; omega), S1.out.below (by repeat (first | refine Below.setCell ?_ (by dsimp only; omega) _ | refine Below.alloc ?_ (by first | (simp; done) | (simp; omega) | omega) _ | exact Below.refl _ _))⟩).mono ?_
  rintro e w1 ⟨cs1, M1, rfl, g1, hb1⟩
  obtain ⟨vA1, vc1, rfl⟩ := cFact_cells g1.rep
  have G1 := Lib.hid (g1.mono (show w.heap.size + 3 ≤ _ by simp))
  have lt1 := Lib.hid g1.lt
  clear g1
  have B1 : Hid (Below w.heap.size w w1) := Below.trans (by repeat (first | refine Below.setCell ?_ (by dsimp only; omega) _ | refine Below.alloc ?_ (by first | (simp; done) | (simp; omega) | omega) _ | exact Below.refl _ _)) (hb1.mono (by first | (simp; done) | (simp; omega) | omega))
  have K0 : Hid (Blk w1 w.heap.size 51 #[.string x.fact.rel, .slice A1 x.fact.args.length c1, .string x.rule, .slice A2 x.uses.length c2]) := Blk.later (Blk.alloc (Blk.alloc (Blk.new _ _ _) _) _) hb1
  have K1 : Hid (Blk w1 (w.heap.size + 1) 54 #[.string ⟨#[]⟩, .slice none 0 0, .string ⟨#[]⟩, .slice none 0 0]) := Blk.later (Blk.alloc (Blk.new_at (by simp)) _) hb1
  have K2 : Hid (Blk w1 (w.heap.size + 1 + 1) 54 #[.string ⟨#[]⟩, .slice none 0 0, .string ⟨#[]⟩, .slice none 0 0]) := Blk.later (Blk.new_at (by simp)) hb1
  have f0 := K0.out.at (i := 0) rfl
  have r0 := K1.out.at (i := 0) rfl
  have o0 := K2.out.at (i := 0) rfl
  have rz0 := K1.out.frozen 0
  have oz0 := K2.out.frozen 0
  have f1 := K0.out.at (i := 1) rfl
  have r1 := K1.out.at (i := 1) rfl
  have o1 := K2.out.at (i := 1) rfl
  have rz1 := K1.out.frozen 1
  have oz1 := K2.out.frozen 1
  have f2 := K0.out.at (i := 2) rfl
  have r2 := K1.out.at (i := 2) rfl
  have o2 := K2.out.at (i := 2) rfl
  have rz2 := K1.out.frozen 2
  have oz2 := K2.out.frozen 2
  have f3 := K0.out.at (i := 3) rfl
  have r3 := K1.out.at (i := 3) rfl
  have o3 := K2.out.at (i := 3) rfl
  have rz3 := K1.out.frozen 3
  have oz3 := K2.out.frozen 3
  have hz1 : w.heap.size + 2 < w1.heap.size := by have := hb1.size; simp at this; omega
  clear hb1
  go_wp2_with fail
  refine (toIntS_any A2 _ c2 x.uses L2 _ rfl (by omega) (S2.out.below (by repeat (first | refine Below.setCell ?_ (by dsimp only; omega) _ | refine Below.alloc ?_ (by first | (simp; done) | (simp; omega) | omega) _ | exact B1.out)))).mono ?_
  rintro e w2 ⟨v2, rfl, a2⟩
  obtain ⟨vA2, vc2, rfl⟩ := a2.shape
  have hb2 := a2.below
  obtain ⟨M2, g2⟩ := a2.got
  clear a2
  have G2 := Lib.hid (g2.mono (show w1.heap.size ≤ _ by simp))
  have lt2 := Lib.hid g2.lt
  clear g2
  have B2 : Hid (Below w.heap.size w w2) := Below.trans (by repeat (first | refine Below.setCell ?_ (by dsimp only; omega) _ | refine Below.alloc ?_ (by first | (simp; done) | (simp; omega) | omega) _ | exact B1.out)) (hb2.mono (by first | (simp; done) | (simp; omega) | omega))
  have G1 : Hid (Got cFact (w.heap.size + 3) [.string x.fact.rel, .slice vA1 x.fact.args.length vc1] x.fact M1 w2) := Got.later (by repeat (first | refine Got.setCell ?_ (by dsimp only; omega) _ | exact G1.out)) hb2
  have K0 := Lib.hid (Blk.later (Blk.far (Blk.far (Blk.far K0.out (by dsimp only; omega) _) (by dsimp only; omega) _) (by dsimp only; omega) _) hb2)
  have K1 := Lib.hid (Blk.later (Blk.far (Blk.far (Blk.far K1.out (by dsimp only; omega) _) (by dsimp only; omega) _) (by dsimp only; omega) _) hb2)
  have K2 := Lib.hid (Blk.later (Blk.set_ (Blk.set_ (Blk.set_ K2.out 0 _) 1 _) 2 _) hb2)
  clear f0 r0 o0 rz0 oz0 f1 r1 o1 rz1 oz1 f2 r2 o2 rz2 oz2 f3 r3 o3 rz3 oz3
  have f0 := K0.out.at (i := 0) rfl
  have r0 := K1.out.at (i := 0) rfl
  have o0 := K2.out.at (i := 0) rfl
  have rz0 := K1.out.frozen 0
  have oz0 := K2.out.frozen 0
  have f1 := K0.out.at (i := 1) rfl
  have r1 := K1.out.at (i := 1) rfl
  have o1 := K2.out.at (i := 1) rfl
  have rz1 := K1.out.frozen 1
  have oz1 := K2.out.frozen 1
  have f2 := K0.out.at (i := 2) rfl
  have r2 := K1.out.at (i := 2) rfl
  have o2 := K2.out.at (i := 2) rfl
  have rz2 := K1.out.frozen 2
  have oz2 := K2.out.frozen 2
  have f3 := K0.out.at (i := 3) rfl
  have r3 := K1.out.at (i := 3) rfl
  have o3 := K2.out.at (i := 3) rfl
  have rz3 := K1.out.frozen 3
  have oz3 := K2.out.frozen 3
  have hz2 : w.heap.size + 2 < w2.heap.size := by have := hb2.size; simp at this; omega
  have hy2 : w1.heap.size ≤ w2.heap.size := by have := hb2.size; simp at this; omega
  clear hb2
  go_wp2_with fail
  refine bodyPost_ret (v := .agg #[.string x.fact.rel, .slice vA1 x.fact.args.length vc1, .string x.rule, .slice vA2 x.uses.length vc2]) (by simp [results, Try.results35, go_sem, r0, r1, r2, r3]) rfl ?_
  obtain ⟨_, _, N1, hcs1, hL1, _, nn1, mm1, ss1⟩ := G1.out.rep
  cases hcs1
  subst hL1
  obtain ⟨nn2, mm2, ss2⟩ := sliceC_out G2.out.rep
  exact gives_of (wr := w2) (M1 ++ M2) ⟨⟨vA1, vc1, M1, vA2, vc2, M2, rfl, rfl, t0, t1, nn1, mm1, ss1, nn2, mm2, ss2⟩, by have o := (Own.append G1.out.own G2.out.own (by omega) lt1.out); simpa only [List.append_assoc] using o⟩ (by intro b hb; repeat rw [Below.heap_setCell _ _ _ _ (by dsimp only; omega)]) (by repeat (first | refine Below.setCell ?_ (by dsimp only; omega) _ | refine Below.alloc ?_ (by first | (simp; done) | (simp; omega) | omega) _ | exact B2.out))

theorem Try.infoStep : (Try.prog.info? 54).map (fun i => (i.zero, i.size, i.bytes)) = some (some (.agg #[.string ⟨#[]⟩, .slice none 0 0, .string ⟨#[]⟩, .slice none 0 0]), 4, 80) := by kernel_rfl
set_option maxHeartbeats 1600000 in
theorem toStepS_any (A : Option Addr) (n c : Nat) (ds : List StepD) (L : List Nat) (w : World) (hn : n = ds.length) (hz : costStepS ds ≤ 1048576) (h : Sli cStep w A ds L) :
    Calls Try.prog 11 #[.slice A n c] w (GivesS cStep 54 w ds) := by
  obtain ⟨i0, hi, hz0, hz1, hz2⟩ := info_parts Try.infoStep
  have H := Lib.hid h
  have HN := Lib.hid hn
  have hm : n ≤ 1048576 := by simp only [costStepS] at hz; omega
  have HZ := Lib.hid hz
  clear h hn hz
  go_enter Try.func11, Try.ntmps11
  go_wp2_with (at_make; refine wpList_make_full _ rfl _ _ 25 rfl w.heap.size 54 i0 _ 4 Try.underlying25 hi hz0 hz1 .i64 .i64 _ _ n rfl rfl rfl rfl (by rw [hz2]; omega) (by unfold maxLen; omega) (Nat.le_refl _) ?_; intro w1 hown hg)
  have hb : Below w.heap.size w w1 := (Below.refl _ _).grown hg (Nat.le_refl _) (by simp)
  have HF0 : Hid (Filling cStep 54 w n ds 0 w1) := Filling.start hown hb
  clear hown hg hb
  go_wp2
  go_loopw [4] (fun i wr => ∃ (k : Nat), k ≤ n ∧ i = .int .i64 k ∧ Hid (Filling cStep 54 w n ds k wr)) (fun i _ => n - (intOf i).toNat)
  case atStart => exact ⟨0, Nat.zero_le _, rfl, HF0⟩
  case round =>
    obtain ⟨k, hk, rfl, HF⟩ := hrel
    by_cases hlt : k < n
    · have hkl : k < ds.length := by have := HN.out; omega
      obtain ⟨b, off, cs, Lk, rfl, hbL, hLk, hrep, hc⟩ := H.out.at_ hkl
      have hbl : b < w.heap.size := H.out.lt b hbL
      have HR := Lib.hid (cStep.keep hrep (keep_below HF.out.below (fun y m => H.out.lt y (hLk y m))))
      obtain ⟨A1, c1, A2, c2, rfl⟩ := cStep_cells hrep
      have q0 : wr.cell? ⟨b, off + k * 4, none⟩ = _ := (HF.out.below.cell (p := ⟨b, off + (k * 4 + 0), none⟩) hbl).trans (hc 0 _ rfl)
      have q1 : wr.cell? ⟨b, off + k * 4 + 1, none⟩ = _ := (HF.out.below.cell (p := ⟨b, off + (k * 4 + 1), none⟩) hbl).trans (hc 1 _ rfl)
      have q2 : wr.cell? ⟨b, off + k * 4 + 2, none⟩ = _ := (HF.out.below.cell (p := ⟨b, off + (k * 4 + 2), none⟩) hbl).trans (hc 2 _ rfl)
      have q3 : wr.cell? ⟨b, off + k * 4 + 3, none⟩ = _ := (HF.out.below.cell (p := ⟨b, off + (k * 4 + 3), none⟩) hbl).trans (hc 3 _ rfl)
      have hcx : Hid (costStep ds[k] ≤ 1048576) := cost_le costStep ds k hkl (by have := HZ.out; simp only [costStepS] at this; omega)
      obtain ⟨x, hx⟩ : ∃ x, x = ds[k] := ⟨_, rfl⟩
      have HX := Lib.hid hx
      rw [← hx] at HR q0 q1 q2 q3 hcx
      clear hc hrep hx
      go_wp2_with fail
      refine (toStep_any _ x Lk _ hcx.out HR.out).mono ?_
      rintro e w2 ⟨cs2, M2, rfl, g2, hb2⟩
      have HF2 := Lib.hid (HF.out.later hb2)
      have HS := Lib.hid (HF.out.store hlt HN.out (fun _ => HX.out) hb2 g2)
      obtain ⟨vA1, vc1, vA2, vc2, rfl⟩ := cStep_cells g2.rep
      clear g2 hb2
      obtain ⟨d0, e0⟩ : ∃ d, w2.cell? ⟨w.heap.size, k * 4, none⟩ = some d := HF2.out.cell hlt (j := 0) (by decide)
      have z0 := HF2.out.frozen (k * 4)
      obtain ⟨d1, e1⟩ : ∃ d, w2.cell? ⟨w.heap.size, k * 4 + 1, none⟩ = some d := HF2.out.cell hlt (j := 1) (by decide)
      have z1 := HF2.out.frozen (k * 4 + 1)
      obtain ⟨d2, e2⟩ : ∃ d, w2.cell? ⟨w.heap.size, k * 4 + 2, none⟩ = some d := HF2.out.cell hlt (j := 2) (by decide)
      have z2 := HF2.out.frozen (k * 4 + 2)
      obtain ⟨d3, e3⟩ : ∃ d, w2.cell? ⟨w.heap.size, k * 4 + 3, none⟩ = some d := HF2.out.cell hlt (j := 3) (by decide)
      have z3 := HF2.out.frozen (k * 4 + 3)
      go_wp2_with fail
      go_roundw
      case rel => exact ⟨k + 1, by omega, by go_num, HS.out⟩
      case measure => simp [intOf]; omega
    · obtain rfl : k = n := by omega
      go_wp2
      go_ret
      exact ⟨_, rfl, HF.out.done HN.out⟩

end Go.Proofs.Ytfmplnebdldpdaa
