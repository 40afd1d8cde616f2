/- Texts of this proof, joined: To, Eq, Open, ExactStepLine, Opens. What each holds is said at its theorems. -/
import Derived.Test.YtppjenkjopjeiaaDoorProg
import Derived.Test.YtppjenkjopjeiaaDoorStepLineQ1
import Derived.Outline
import Derived.WalkSpells
import Derived.StillTailTactics
import Derived.Deep.Slices
import Derived.ChangeArms
import Derived.ProofKit
import Derived.Test.YtppjenkjopjeiaaDoorStepLineQ3
import Derived.Deep.RegionHeld3
set_option linter.unusedSimpArgs false
set_option linter.unusedVariables false
namespace Go.Proofs.YtppjenkjopjeiaaDoor
open Go.RowKit

theorem Tryd.infoString_ : (Tryd.prog.info? 9).map (fun i => (i.zero, i.size, i.bytes)) = some (some (.string ⟨#[]⟩), 1, 16) := by kernel_rfl
set_option maxHeartbeats 1600000 in
theorem toStringS_any (A : Option Addr) (n c : Nat) (ds : List ByteArray) (L : List Nat) (w : World) (hn : n = ds.length) (hm : ds.length ≤ 1099511627776) (h : Sli strC w A ds L) :
    Calls Tryd.prog 63 #[.slice A n c] w (GivesS strC 9 w ds) := by
  obtain ⟨i0, hi, hz0, hz1, hz2⟩ := info_parts Tryd.infoString_
  rw [← hn] at hm
  have H := Lib.hid h
  have HN := Lib.hid hn
  clear h hn
  go_enter Tryd.func63, Tryd.ntmps63
  go_wp2_with (at_make; refine wpList_make_full _ rfl _ _ 29 rfl w.heap.size 9 i0 _ 1 Tryd.underlying29 hi hz0 hz1 .i64 .i64 _ _ n rfl rfl rfl rfl (by rw [hz2]; omega) (by unfold maxLen; omega) (Nat.le_refl _) ?_; intro w1 hown hg)
  have hb : Below w.heap.size w w1 := (Below.refl _ _).grown hg (Nat.le_refl _) (by simp)
  have HF0 : Hid (Filling strC 9 w n ds 0 w1) := Filling.start hown hb
  clear hown hg hb
  go_wp2
  go_loopw [4] (fun i wr => ∃ (k : Nat), k ≤ n ∧ i = .int .i64 k ∧ Hid (Filling strC 9 w n ds k wr)) (fun i _ => n - (intOf i).toNat)
  case atStart => exact ⟨0, Nat.zero_le _, rfl, HF0⟩
  case round =>
    obtain ⟨k, hk, rfl, HF⟩ := hrel
    by_cases hlt : k < n
    · have hkl : k < ds.length := by have := HN.out; omega
      obtain ⟨b, off, cs, Lk, rfl, hbL, hLk, hrep, hc⟩ := H.out.at_ hkl
      have hbl : b < w.heap.size := H.out.lt b hbL
      have hrep0 := hrep
      obtain ⟨rfl, _, hss⟩ := hrep0
      have q0 := (HF.out.below.cell (p := ⟨b, off + (k * strC.size + 0), none⟩) hbl).trans (hc 0 _ rfl)
      have HS := Lib.hid (HF.out.store (w2 := wr) (x := ds[k]) (M := []) hlt HN.out (fun _ => rfl) (Below.refl _ _) ⟨⟨rfl, rfl, hss⟩, Own.nil _ _⟩)
      obtain ⟨d0, e0⟩ := HF.out.cell hlt (j := 0) (by decide)
      have z0 := HF.out.frozen k
      simp only [show strC.size = 1 from rfl, Nat.mul_one, Nat.add_zero] at q0 HS e0
      generalize ds[k] = x at *
      clear hc hrep
      go_wp2_with fail
      go_roundw
      case rel => exact ⟨k + 1, by omega, by go_num, HS.out⟩
      case measure => simp [intOf]; omega
    · obtain rfl : k = n := by omega
      go_wp2
      go_ret
      exact ⟨_, rfl, HF.out.done HN.out⟩

theorem Tryd.infoInt_ : (Tryd.prog.info? 3).map (fun i => (i.zero, i.size, i.bytes)) = some (some (.int .i64 0), 1, 8) := by kernel_rfl
set_option maxHeartbeats 1600000 in
theorem toIntS_any (A : Option Addr) (n c : Nat) (ds : List Int) (L : List Nat) (w : World) (hn : n = ds.length) (hm : ds.length ≤ 1099511627776) (h : Sli intC w A ds L) :
    Calls Tryd.prog 38 #[.slice A n c] w (GivesS intC 3 w ds) := by
  obtain ⟨i0, hi, hz0, hz1, hz2⟩ := info_parts Tryd.infoInt_
  rw [← hn] at hm
  have H := Lib.hid h
  have HN := Lib.hid hn
  clear h hn
  go_enter Tryd.func38, Tryd.ntmps38
  go_wp2_with (at_make; refine wpList_make_full _ rfl _ _ 32 rfl w.heap.size 3 i0 _ 1 Tryd.underlying32 hi hz0 hz1 .i64 .i64 _ _ n rfl rfl rfl rfl (by rw [hz2]; omega) (by unfold maxLen; omega) (Nat.le_refl _) ?_; intro w1 hown hg)
  have hb : Below w.heap.size w w1 := (Below.refl _ _).grown hg (Nat.le_refl _) (by simp)
  have HF0 : Hid (Filling intC 3 w n ds 0 w1) := Filling.start hown hb
  clear hown hg hb
  go_wp2
  go_loopw [4] (fun i wr => ∃ (k : Nat), k ≤ n ∧ i = .int .i64 k ∧ Hid (Filling intC 3 w n ds k wr)) (fun i _ => n - (intOf i).toNat)
  case atStart => exact ⟨0, Nat.zero_le _, rfl, HF0⟩
  case round =>
    obtain ⟨k, hk, rfl, HF⟩ := hrel
    by_cases hlt : k < n
    · have hkl : k < ds.length := by have := HN.out; omega
      obtain ⟨b, off, cs, Lk, rfl, hbL, hLk, hrep, hc⟩ := H.out.at_ hkl
      have hbl : b < w.heap.size := H.out.lt b hbL
      have hrep0 := hrep
      obtain ⟨rfl, _⟩ := hrep0
      have q0 := (HF.out.below.cell (p := ⟨b, off + (k * intC.size + 0), none⟩) hbl).trans (hc 0 _ rfl)
      have HS := Lib.hid (HF.out.store (w2 := wr) (x := ds[k]) (M := []) hlt HN.out (fun _ => rfl) (Below.refl _ _) ⟨⟨rfl, rfl⟩, Own.nil _ _⟩)
      obtain ⟨d0, e0⟩ := HF.out.cell hlt (j := 0) (by decide)
      have z0 := HF.out.frozen k
      simp only [show intC.size = 1 from rfl, Nat.mul_one, Nat.add_zero] at q0 HS e0
      generalize ds[k] = x at *
      clear hc hrep
      go_wp2_with fail
      go_roundw
      case rel => exact ⟨k + 1, by omega, by go_num, HS.out⟩
      case measure => simp [intOf]; omega
    · obtain rfl : k = n := by omega
      go_wp2
      go_ret
      exact ⟨_, rfl, HF.out.done HN.out⟩

set_option maxHeartbeats 1600000 in
theorem toFact_any (cs : List Value) (x : FactD) (L : List Nat) (w : World) (hz : costFact x ≤ 1048576) (h : cFact.rep w cs x L) :
    Calls Tryd.prog 37 #[.agg cs.toArray] w (Gives cFact w x) := by
  obtain ⟨A1, c1, L1, rfl, _hL, t0, n1, m1, s1⟩ := h
  unfold maxLen at m1
  have S1 := Lib.hid s1
  clear s1
  simp only [costFact] at hz
  go_enter Tryd.func37, Tryd.ntmps37
  go_wp2_with fail
  refine (toStringS_any A1 _ c1 x.args L1 _ rfl (by simp only [costStrs] at hz; omega) (S1.out.below (by repeat (first | refine Below.setCell ?_ (by dsimp only; omega) _ | refine Below.alloc ?_ (by first | (simp; done) | (simp; omega) | omega) _ | exact Below.refl _ _)))).mono ?_
  rintro e w1 ⟨v1, rfl, a1⟩
  obtain ⟨vA1, vc1, rfl⟩ := a1.shape
  have hb1 := a1.below
  obtain ⟨M1, g1⟩ := a1.got
  clear a1
  have G1 := Lib.hid (g1.mono (show w.heap.size + 3 ≤ _ by simp))
  have lt1 := Lib.hid g1.lt
  clear g1
  have B1 : Hid (Below w.heap.size w w1) := Below.trans (by repeat (first | refine Below.setCell ?_ (by dsimp only; omega) _ | refine Below.alloc ?_ (by first | (simp; done) | (simp; omega) | omega) _ | exact Below.refl _ _)) (hb1.mono (by first | (simp; done) | (simp; omega) | omega))
  have K0 : Hid (Blk w1 w.heap.size 31 #[.string x.rel, .slice A1 x.args.length c1]) := Blk.later (Blk.alloc (Blk.alloc (Blk.new _ _ _) _) _) hb1
  have K1 : Hid (Blk w1 (w.heap.size + 1) 37 #[.string ⟨#[]⟩, .slice none 0 0]) := Blk.later (Blk.alloc (Blk.new_at (by simp)) _) hb1
  have K2 : Hid (Blk w1 (w.heap.size + 1 + 1) 37 #[.string x.rel, .slice none 0 0]) := Blk.later (Blk.new_at (by simp)) hb1
  have f0 := K0.out.at (i := 0) rfl
  have r0 := K1.out.at (i := 0) rfl
  have o0 := K2.out.at (i := 0) rfl
  have rz0 := K1.out.frozen 0
  have oz0 := K2.out.frozen 0
  have f1 := K0.out.at (i := 1) rfl
  have r1 := K1.out.at (i := 1) rfl
  have o1 := K2.out.at (i := 1) rfl
  have rz1 := K1.out.frozen 1
  have oz1 := K2.out.frozen 1
  have hz1 : w.heap.size + 2 < w1.heap.size := by have := hb1.size; simp at this; omega
  clear hb1
  go_wp2_with fail
  refine bodyPost_ret (v := .agg #[.string x.rel, .slice vA1 x.args.length vc1]) (by simp [results, Tryd.results37, go_sem, r0, r1]) rfl ?_
  obtain ⟨nn1, mm1, ss1⟩ := sliceC_out G1.out.rep
  exact gives_of (wr := w1) (M1) ⟨⟨vA1, vc1, M1, rfl, rfl, t0, nn1, mm1, ss1⟩, by have o := G1.out.own; simpa only [List.append_assoc] using o⟩ (by intro b hb; repeat rw [Below.heap_setCell _ _ _ _ (by dsimp only; omega)]) (by repeat (first | refine Below.setCell ?_ (by dsimp only; omega) _ | refine Below.alloc ?_ (by first | (simp; done) | (simp; omega) | omega) _ | exact B1.out))

set_option maxHeartbeats 1600000 in
theorem toStep_any (cs : List Value) (x : StepD) (L : List Nat) (w : World) (hz : costStep x ≤ 1048576) (h : cStep.rep w cs x L) :
    Calls Tryd.prog 13 #[.agg cs.toArray] w (Gives cStep w x) := by
  obtain ⟨A1, c1, L1, A2, c2, L2, rfl, _hL, t0, t1, n1, m1, s1, n2, m2, s2⟩ := h
  unfold maxLen at m1 m2
  have S1 := Lib.hid s1
  clear s1
  have S2 := Lib.hid s2
  clear s2
  simp only [costStep] at hz
  go_enter Tryd.func13, Tryd.ntmps13
  go_wp2_with fail
  refine (toFact_any [.string x.fact.rel, .slice A1 x.fact.args.length c1] x.fact _ _ (by omega) ⟨A1, c1, L1, rfl, rfl, t0, n1, (by unfold maxLen; omega), S1.out.below (by repeat (first | refine Below.setCell ?_ (by dsimp only; omega) _ | refine Below.alloc ?_ (by first | (simp; done) | (simp; omega) | omega) _ | exact Below.refl _ _))⟩).mono ?_
  rintro e w1 ⟨cs1, M1, rfl, g1, hb1⟩
  obtain ⟨vA1, vc1, rfl⟩ := cFact_cells g1.rep
  have G1 := Lib.hid (g1.mono (show w.heap.size + 3 ≤ _ by simp))
  have lt1 := Lib.hid g1.lt
  clear g1
  have B1 : Hid (Below w.heap.size w w1) := Below.trans (by repeat (first | refine Below.setCell ?_ (by dsimp only; omega) _ | refine Below.alloc ?_ (by first | (simp; done) | (simp; omega) | omega) _ | exact Below.refl _ _)) (hb1.mono (by first | (simp; done) | (simp; omega) | omega))
  have K0 : Hid (Blk w1 w.heap.size 34 #[.string x.fact.rel, .slice A1 x.fact.args.length c1, .string x.rule, .slice A2 x.uses.length c2]) := Blk.later (Blk.alloc (Blk.alloc (Blk.new _ _ _) _) _) hb1
  have K1 : Hid (Blk w1 (w.heap.size + 1) 39 #[.string ⟨#[]⟩, .slice none 0 0, .string ⟨#[]⟩, .slice none 0 0]) := Blk.later (Blk.alloc (Blk.new_at (by simp)) _) hb1
  have K2 : Hid (Blk w1 (w.heap.size + 1 + 1) 39 #[.string ⟨#[]⟩, .slice none 0 0, .string ⟨#[]⟩, .slice none 0 0]) := Blk.later (Blk.new_at (by simp)) hb1
  have f0 := K0.out.at (i := 0) rfl
  have r0 := K1.out.at (i := 0) rfl
  have o0 := K2.out.at (i := 0) rfl
  have rz0 := K1.out.frozen 0
  have oz0 := K2.out.frozen 0
  have f1 := K0.out.at (i := 1) rfl
  have r1 := K1.out.at (i := 1) rfl
  have o1 := K2.out.at (i := 1) rfl
  have rz1 := K1.out.frozen 1
  have oz1 := K2.out.frozen 1
  have f2 := K0.out.at (i := 2) rfl
  have r2 := K1.out.at (i := 2) rfl
  have o2 := K2.out.at (i := 2) rfl
  have rz2 := K1.out.frozen 2
  have oz2 := K2.out.frozen 2
  have f3 := K0.out.at (i := 3) rfl
  have r3 := K1.out.at (i := 3) rfl
  have o3 := K2.out.at (i := 3) rfl
  have rz3 := K1.out.frozen 3
  have oz3 := K2.out.frozen 3
  have hz1 : w.heap.size + 2 < w1.heap.size := by have := hb1.size; simp at this; omega
  clear hb1
  go_wp2_with fail
  refine (toIntS_any A2 _ c2 x.uses L2 _ rfl (by omega) (S2.out.below (by repeat (first | refine Below.setCell ?_ (by dsimp only; omega) _ | refine Below.alloc ?_ (by first | (simp; done) | (simp; omega) | omega) _ | exact B1.out)))).mono ?_
  rintro e w2 ⟨v2, rfl, a2⟩
  obtain ⟨vA2, vc2, rfl⟩ := a2.shape
  have hb2 := a2.below
  obtain ⟨M2, g2⟩ := a2.got
  clear a2
  have G2 := Lib.hid (g2.mono (show w1.heap.size ≤ _ by simp))
  have lt2 := Lib.hid g2.lt
  clear g2
  have B2 : Hid (Below w.heap.size w w2) := Below.trans (by repeat (first | refine Below.setCell ?_ (by dsimp only; omega) _ | refine Below.alloc ?_ (by first | (simp; done) | (simp; omega) | omega) _ | exact B1.out)) (hb2.mono (by first | (simp; done) | (simp; omega) | omega))
  have G1 : Hid (Got cFact (w.heap.size + 3) [.string x.fact.rel, .slice vA1 x.fact.args.length vc1] x.fact M1 w2) := Got.later (by repeat (first | refine Got.setCell ?_ (by dsimp only; omega) _ | exact G1.out)) hb2
  have K0 := Lib.hid (Blk.later (Blk.far (Blk.far (Blk.far K0.out (by dsimp only; omega) _) (by dsimp only; omega) _) (by dsimp only; omega) _) hb2)
  have K1 := Lib.hid (Blk.later (Blk.far (Blk.far (Blk.far K1.out (by dsimp only; omega) _) (by dsimp only; omega) _) (by dsimp only; omega) _) hb2)
  have K2 := Lib.hid (Blk.later (Blk.set_ (Blk.set_ (Blk.set_ K2.out 0 _) 1 _) 2 _) hb2)
  clear f0 r0 o0 rz0 oz0 f1 r1 o1 rz1 oz1 f2 r2 o2 rz2 oz2 f3 r3 o3 rz3 oz3
  have f0 := K0.out.at (i := 0) rfl
  have r0 := K1.out.at (i := 0) rfl
  have o0 := K2.out.at (i := 0) rfl
  have rz0 := K1.out.frozen 0
  have oz0 := K2.out.frozen 0
  have f1 := K0.out.at (i := 1) rfl
  have r1 := K1.out.at (i := 1) rfl
  have o1 := K2.out.at (i := 1) rfl
  have rz1 := K1.out.frozen 1
  have oz1 := K2.out.frozen 1
  have f2 := K0.out.at (i := 2) rfl
  have r2 := K1.out.at (i := 2) rfl
  have o2 := K2.out.at (i := 2) rfl
  have rz2 := K1.out.frozen 2
  have oz2 := K2.out.frozen 2
  have f3 := K0.out.at (i := 3) rfl
  have r3 := K1.out.at (i := 3) rfl
  have o3 := K2.out.at (i := 3) rfl
  have rz3 := K1.out.frozen 3
  have oz3 := K2.out.frozen 3
  have hz2 : w.heap.size + 2 < w2.heap.size := by have := hb2.size; simp at this; omega
  have hy2 : w1.heap.size ≤ w2.heap.size := by have := hb2.size; simp at this; omega
  clear hb2
  go_wp2_with fail
  refine bodyPost_ret (v := .agg #[.string x.fact.rel, .slice vA1 x.fact.args.length vc1, .string x.rule, .slice vA2 x.uses.length vc2]) (by simp [results, Tryd.results13, go_sem, r0, r1, r2, r3]) rfl ?_
  obtain ⟨_, _, N1, hcs1, hL1, _, nn1, mm1, ss1⟩ := G1.out.rep
  cases hcs1
  subst hL1
  obtain ⟨nn2, mm2, ss2⟩ := sliceC_out G2.out.rep
  exact gives_of (wr := w2) (M1 ++ M2) ⟨⟨vA1, vc1, M1, vA2, vc2, M2, rfl, rfl, t0, t1, nn1, mm1, ss1, nn2, mm2, ss2⟩, by have o := (Own.append G1.out.own G2.out.own (by omega) lt1.out); simpa only [List.append_assoc] using o⟩ (by intro b hb; repeat rw [Below.heap_setCell _ _ _ _ (by dsimp only; omega)]) (by repeat (first | refine Below.setCell ?_ (by dsimp only; omega) _ | refine Below.alloc ?_ (by first | (simp; done) | (simp; omega) | omega) _ | exact B2.out))

end Go.Proofs.YtppjenkjopjeiaaDoor

namespace Go.Proofs.YtppjenkjopjeiaaDoor
open Go.RowKit

def TruePost (w : World) (e : Ending) (w' : World) : Prop := e = .returned (.bool true) ∧ Below w.heap.size w w'

set_option maxHeartbeats 1600000 in
theorem eqStringS_any (A B : Option Addr) (n c d : Nat) (ds : List ByteArray) (L M : List Nat) (w : World) (hn : n = ds.length) (hm : n ≤ 9223372036854775807) (h1 : Sli strC w A ds L) (h2 : Sli strC w B ds M) :
    Calls Tryd.prog 66 #[.slice A n c, .slice B n d] w (TruePost w) := by
  have H1 := Lib.hid h1
  have H2 := Lib.hid h2
  have HN := Lib.hid hn
  clear h1 h2 hn
  have hne : ((n : Int) != n) = false := by simp
  go_enter Tryd.func66, Tryd.ntmps66
  go_wp2
  go_loopw [5] (fun i wr => ∃ (k : Nat), k ≤ n ∧ i = .int .i64 k ∧ Hid (∃ q, wr = w.drewN q)) (fun i _ => n - (intOf i).toNat)
  case atStart => exact ⟨0, Nat.zero_le _, rfl, 0, rfl⟩
  case round =>
    obtain ⟨k, hk, rfl, hq⟩ := hrel
    obtain ⟨q, rfl⟩ := hq.out
    by_cases hlt : k < n
    · have hkl : k < ds.length := by have := HN.out; omega
      obtain ⟨b, off, cs, Lk, rfl, _, _, hrep, hc⟩ := H1.out.at_ hkl
      obtain ⟨b', off', cs', Mk, rfl, _, _, hrep', hc'⟩ := H2.out.at_ hkl
      generalize ds[k] = x at *
      obtain ⟨rfl, _, _⟩ := hrep
      obtain ⟨rfl, _, _⟩ := hrep'
      have q0 := hc 0 _ rfl
      have p0 := hc' 0 _ rfl
      simp only [show strC.size = 1 from rfl, Nat.mul_one, Nat.add_zero] at q0 p0
      clear hc hc'
      have k0 : (0 : Int) ≤ k := by omega
      have k1 : (k : Int) < n := by omega
      go_wp2_with fail
      go_quiet (fail)
      go_wp2_with fail
      go_roundw
      case rel => exact ⟨k + 1, by omega, by go_num, by first | exact drew_ex _ _ _ | exact drew_ex1 _ _⟩
      case measure => simp [intOf]; omega
    · go_wp2
      go_ret
      exact ⟨rfl, below_of_drewN _ _ _⟩

set_option maxHeartbeats 1600000 in
theorem eqIntS_any (A B : Option Addr) (n c d : Nat) (ds : List Int) (L M : List Nat) (w : World) (hn : n = ds.length) (hm : n ≤ 9223372036854775807) (h1 : Sli intC w A ds L) (h2 : Sli intC w B ds M) :
    Calls Tryd.prog 42 #[.slice A n c, .slice B n d] w (TruePost w) := by
  have H1 := Lib.hid h1
  have H2 := Lib.hid h2
  have HN := Lib.hid hn
  clear h1 h2 hn
  have hne : ((n : Int) != n) = false := by simp
  go_enter Tryd.func42, Tryd.ntmps42
  go_wp2
  go_loopw [5] (fun i wr => ∃ (k : Nat), k ≤ n ∧ i = .int .i64 k ∧ Hid (∃ q, wr = w.drewN q)) (fun i _ => n - (intOf i).toNat)
  case atStart => exact ⟨0, Nat.zero_le _, rfl, 0, rfl⟩
  case round =>
    obtain ⟨k, hk, rfl, hq⟩ := hrel
    obtain ⟨q, rfl⟩ := hq.out
    by_cases hlt : k < n
    · have hkl : k < ds.length := by have := HN.out; omega
      obtain ⟨b, off, cs, Lk, rfl, _, _, hrep, hc⟩ := H1.out.at_ hkl
      obtain ⟨b', off', cs', Mk, rfl, _, _, hrep', hc'⟩ := H2.out.at_ hkl
      generalize ds[k] = x at *
      obtain ⟨rfl, _⟩ := hrep
      obtain ⟨rfl, _⟩ := hrep'
      have q0 := hc 0 _ rfl
      have p0 := hc' 0 _ rfl
      simp only [show intC.size = 1 from rfl, Nat.mul_one, Nat.add_zero] at q0 p0
      clear hc hc'
      have k0 : (0 : Int) ≤ k := by omega
      have k1 : (k : Int) < n := by omega
      go_wp2_with fail
      go_quiet (fail)
      go_wp2_with fail
      go_roundw
      case rel => exact ⟨k + 1, by omega, by go_num, by first | exact drew_ex _ _ _ | exact drew_ex1 _ _⟩
      case measure => simp [intOf]; omega
    · go_wp2
      go_ret
      exact ⟨rfl, below_of_drewN _ _ _⟩

set_option maxHeartbeats 1600000 in
theorem eqFact_any (cs ds : List Value) (x : FactD) (L M : List Nat) (w : World) (h1 : cFact.rep w cs x L) (h2 : cFact.rep w ds x M) :
    Calls Tryd.prog 41 #[.agg cs.toArray, .agg ds.toArray] w (TruePost w) := by
  obtain ⟨aA1, ac1, aL1, rfl, _ahL, at0, an1, am1, as1⟩ := h1
  obtain ⟨bA1, bc1, bL1, rfl, _bhL, bt0, bn1, bm1, bs1⟩ := h2
  unfold maxLen at am1 bm1
  have SA1 := Lib.hid as1
  have SB1 := Lib.hid bs1
  clear as1 bs1
  go_enter Tryd.func41, Tryd.ntmps41
  go_wp2_with fail
  refine (eqStringS_any aA1 bA1 _ ac1 bc1 x.args aL1 bL1 _ rfl (by omega) (SA1.out.below (by repeat (first | refine Below.setCell ?_ (by dsimp only; omega) _ | refine Below.alloc ?_ (by first | (simp; done) | (simp; omega) | omega) _ | exact Below.refl _ _))) (SB1.out.below (by repeat (first | refine Below.setCell ?_ (by dsimp only; omega) _ | refine Below.alloc ?_ (by first | (simp; done) | (simp; omega) | omega) _ | exact Below.refl _ _)))).mono ?_
  rintro e w1 ⟨rfl, hb1⟩
  have B1 : Hid (Below w.heap.size w w1) := Below.trans (by repeat (first | refine Below.setCell ?_ (by dsimp only; omega) _ | refine Below.alloc ?_ (by first | (simp; done) | (simp; omega) | omega) _ | exact Below.refl _ _)) (hb1.mono (by first | (simp; done) | (simp; omega) | omega))
  have K0 : Hid (Blk w1 w.heap.size 37 #[.string x.rel, .slice aA1 x.args.length ac1]) := Blk.later (Blk.alloc (Blk.new _ _ _) _) hb1
  have K1 : Hid (Blk w1 (w.heap.size + 1) 37 #[.string x.rel, .slice bA1 x.args.length bc1]) := Blk.later (Blk.new_at (by simp)) hb1
  have f0 := K0.out.at (i := 0) rfl
  have r0 := K1.out.at (i := 0) rfl
  have f1 := K0.out.at (i := 1) rfl
  have r1 := K1.out.at (i := 1) rfl
  clear hb1
  have hz1 := B1.out.size
  go_wp2_with fail
  go_ret
  exact ⟨rfl, (by repeat (first | refine Below.setCell ?_ (by dsimp only; omega) _ | refine Below.alloc ?_ (by first | (simp; done) | (simp; omega) | omega) _ | exact B1.out))⟩

set_option maxHeartbeats 1600000 in
theorem eqStep_any (cs ds : List Value) (x : StepD) (L M : List Nat) (w : World) (h1 : cStep.rep w cs x L) (h2 : cStep.rep w ds x M) :
    Calls Tryd.prog 15 #[.agg cs.toArray, .agg ds.toArray] w (TruePost w) := by
  obtain ⟨aA1, ac1, aL1, aA2, ac2, aL2, rfl, _ahL, at0, at1, an1, am1, as1, an2, am2, as2⟩ := h1
  obtain ⟨bA1, bc1, bL1, bA2, bc2, bL2, rfl, _bhL, bt0, bt1, bn1, bm1, bs1, bn2, bm2, bs2⟩ := h2
  unfold maxLen at am1 bm1 am2 bm2
  have SA1 := Lib.hid as1
  have SB1 := Lib.hid bs1
  clear as1 bs1
  have SA2 := Lib.hid as2
  have SB2 := Lib.hid bs2
  clear as2 bs2
  go_enter Tryd.func15, Tryd.ntmps15
  go_wp2_with fail
  refine (eqFact_any [.string x.fact.rel, .slice aA1 x.fact.args.length ac1] [.string x.fact.rel, .slice bA1 x.fact.args.length bc1] x.fact _ _ _ ⟨aA1, ac1, aL1, rfl, rfl, at0, an1, (by unfold maxLen; omega), SA1.out.below (by repeat (first | refine Below.setCell ?_ (by dsimp only; omega) _ | refine Below.alloc ?_ (by first | (simp; done) | (simp; omega) | omega) _ | exact Below.refl _ _))⟩ ⟨bA1, bc1, bL1, rfl, rfl, bt0, bn1, (by unfold maxLen; omega), SB1.out.below (by repeat (first | refine Below.setCell ?_ (by dsimp only; omega) _ | refine Below.alloc ?_ (by first | (simp; done) | (simp; omega) | omega) _ | exact Below.refl _ _))⟩).mono ?_
  rintro e w1 ⟨rfl, hb1⟩
  have B1 : Hid (Below w.heap.size w w1) := Below.trans (by repeat (first | refine Below.setCell ?_ (by dsimp only; omega) _ | refine Below.alloc ?_ (by first | (simp; done) | (simp; omega) | omega) _ | exact Below.refl _ _)) (hb1.mono (by first | (simp; done) | (simp; omega) | omega))
  have K0 : Hid (Blk w1 w.heap.size 39 #[.string x.fact.rel, .slice aA1 x.fact.args.length ac1, .string x.rule, .slice aA2 x.uses.length ac2]) := Blk.later (Blk.alloc (Blk.new _ _ _) _) hb1
  have K1 : Hid (Blk w1 (w.heap.size + 1) 39 #[.string x.fact.rel, .slice bA1 x.fact.args.length bc1, .string x.rule, .slice bA2 x.uses.length bc2]) := Blk.later (Blk.new_at (by simp)) hb1
  have f0 := K0.out.at (i := 0) rfl
  have r0 := K1.out.at (i := 0) rfl
  have f1 := K0.out.at (i := 1) rfl
  have r1 := K1.out.at (i := 1) rfl
  have f2 := K0.out.at (i := 2) rfl
  have r2 := K1.out.at (i := 2) rfl
  have f3 := K0.out.at (i := 3) rfl
  have r3 := K1.out.at (i := 3) rfl
  clear hb1
  have hz1 := B1.out.size
  go_wp2_with fail
  refine (eqIntS_any aA2 bA2 _ ac2 bc2 x.uses aL2 bL2 _ rfl (by omega) (SA2.out.below (by repeat (first | refine Below.setCell ?_ (by dsimp only; omega) _ | refine Below.alloc ?_ (by first | (simp; done) | (simp; omega) | omega) _ | exact B1.out))) (SB2.out.below (by repeat (first | refine Below.setCell ?_ (by dsimp only; omega) _ | refine Below.alloc ?_ (by first | (simp; done) | (simp; omega) | omega) _ | exact B1.out)))).mono ?_
  rintro e w2 ⟨rfl, hb2⟩
  have B2 : Hid (Below w.heap.size w w2) := Below.trans (by repeat (first | refine Below.setCell ?_ (by dsimp only; omega) _ | refine Below.alloc ?_ (by first | (simp; done) | (simp; omega) | omega) _ | exact B1.out)) (hb2.mono (by first | (simp; done) | (simp; omega) | omega))
  have K0 := Lib.hid (K0.out.later hb2)
  have K1 := Lib.hid (K1.out.later hb2)
  clear f0 r0 f1 r1 f2 r2 f3 r3
  have f0 := K0.out.at (i := 0) rfl
  have r0 := K1.out.at (i := 0) rfl
  have f1 := K0.out.at (i := 1) rfl
  have r1 := K1.out.at (i := 1) rfl
  have f2 := K0.out.at (i := 2) rfl
  have r2 := K1.out.at (i := 2) rfl
  have f3 := K0.out.at (i := 3) rfl
  have r3 := K1.out.at (i := 3) rfl
  clear hb2
  have hz2 := B2.out.size
  go_wp2_with fail
  go_ret
  exact ⟨rfl, (by repeat (first | refine Below.setCell ?_ (by dsimp only; omega) _ | refine Below.alloc ?_ (by first | (simp; done) | (simp; omega) | omega) _ | exact B2.out))⟩

end Go.Proofs.YtppjenkjopjeiaaDoor

namespace Go.Proofs.YtppjenkjopjeiaaDoor
open Go.RowKit Go.Deep

def Opens {α : Type} (P : Program) (t : TypeId) (c : Codec α) (wf : α → Prop) : Prop :=
  ∀ {H : Type} {enc : TypeId × Value → H} {w : World} {base : Nat} {spare : Nat → Bool} {held : Bool} {fuel : Nat} {cs : List Value} {x : DataW H × List MemPlace},
    DataW.trod enc P w base spare held fuel t cs = some x → ∃ d L, c.rep w cs d L ∧ wf d

theorem opens_int {P : Program} {t : TypeId} (ht : P.underlying t = some (.int .i64)) : Opens P t intC wfInt := by
  intro H enc w base spare held fuel cs x h
  obtain ⟨n, rfl, _, hw⟩ := DataW.trod_int ht h
  refine ⟨n, [], ⟨rfl, rfl⟩, ?_⟩
  simp [Lit.wf, IntKind.min, IntKind.max, IntKind.signed, IntKind.bits] at hw
  exact ⟨by omega, by omega⟩
theorem opens_string {P : Program} {t : TypeId} (ht : P.underlying t = some .string) : Opens P t strC (fun _ => True) := by
  intro H enc w base spare held fuel cs x h
  obtain ⟨s, rfl, _, hs⟩ := DataW.trod_string ht h
  exact ⟨s, [], ⟨rfl, rfl, by unfold maxLen at hs; omega⟩, trivial⟩
theorem opens_slice {α : Type} {c : Codec α} {wf : α → Prop} {P : Program} {t e : TypeId} (ht : P.underlying t = some (.slice e)) (hc : P.cellsOf e = c.size) (ho : Opens P e c wf) : Opens P t (sliceC c) (fun ds => ∀ d ∈ ds, wf d) := by
  intro H enc w base spare held fuel cs x h
  rcases open_slice ht h with ⟨rfl, _⟩ | ⟨a, len, cap, m, n, D, Pl, rfl, hb, hl, hm, hmm, _, hx⟩
  · exact ⟨[], [], ⟨none, 0, rfl, Nat.le_refl _, Nat.zero_le _, Sli.nil _ _⟩, by simp⟩
  · have hlm : len ≤ m := by rw [hmm]; split <;> omega
    have key : ∀ q, q ≤ len → ∃ (xs : List Value) (ds : List α) (L : List Nat), ds.length = q ∧ (∀ j u, xs[j]? = some u → w.cell? (a.add j) = some u) ∧ c.reps w xs ds L ∧ ∀ d ∈ ds, wf d := by
      intro q
      induction q with
      | zero => exact fun _ => ⟨[], [], [], rfl, by simp, ⟨rfl, rfl⟩, by simp⟩
      | succ q ih =>
        intro hq
        obtain ⟨xs, ds, L, hd, hcell, hr, hwf⟩ := ih (by omega)
        obtain ⟨cs', h1, h2⟩ := hx q (by omega)
        obtain ⟨d, Lq, hrep, hwd⟩ := ho h2
        obtain ⟨_, hlen, hat⟩ := World.cells?_some h1
        refine ⟨xs ++ cs', ds ++ [d], L ++ Lq, by simp [hd], fun j u hu => ?_, reps_append hr (reps_one_of hrep), ?_⟩
        · have hxl : xs.length = q * c.size := by rw [reps_len hr, hd]
          rw [List.getElem?_append] at hu
          split at hu
          · exact hcell j u hu
          · rename_i hj
            have hj2 := (List.getElem?_eq_some_iff.1 hu).1
            have := hat (j - xs.length) (by omega)
            rw [← hu, ← this, Go.Deep.add_add, hc, ← hxl]
            congr 2
            omega
        · intro y hy
          rcases List.mem_append.1 hy with hy | hy
          · exact hwf y hy
          · simp at hy; subst hy; exact hwd
    obtain ⟨xs, ds, L, hd, hcell, hr, hwf⟩ := key len (Nat.le_refl _)
    have hxl := reps_len hr
    rcases Nat.eq_zero_or_pos len with h0 | h0
    · have : ds = [] := List.eq_nil_of_length_eq_zero (by omega)
      subst this
      refine ⟨[], [], ⟨some a, cap, by simp at hd; rw [← hd]; rfl, by simp, hm, Sli.nil _ _⟩, by simp⟩
    · obtain ⟨b, off, sp⟩ := a
      have hp : 0 < xs.length := by rw [hxl, hd]; exact Nat.mul_pos h0 c.pos
      have hsp : sp = none := by
        have h1 := hcell 0 _ (List.getElem?_eq_getElem hp)
        have e : (⟨b, off, sp⟩ : Addr).add 0 = ⟨b, off, sp⟩ := by simp [Addr.add]
        rw [e] at h1
        cases sp with
        | none => rfl
        | some q =>
          simp only [World.cell?] at h1
          split at h1 <;> simp at h1
      subst hsp
      refine ⟨ds, [b] ++ L, ⟨some ⟨b, off, none⟩, cap, by rw [hd], by omega, hm, xs, [b], L, rfl, ⟨by rw [hxl], .inr ⟨by omega, b, off, rfl, rfl, fun j u hu => ?_⟩⟩, hr⟩, hwf⟩
      have := hcell j u hu
      rwa [add_lit0] at this

end Go.Proofs.YtppjenkjopjeiaaDoor

namespace Go.Proofs.YtppjenkjopjeiaaDoor
open Go.RowKit

theorem below_of_drew0 {w w1 : World} {B : Nat} (h : Below w.drew.heap.size w.drew w1) (hB : B ≤ w.heap.size) : Below B w w1 := ⟨h.os, h.tape, h.output, h.size, fun k hk => h.block k (Nat.lt_of_lt_of_le hk hB)⟩

theorem sStepLine_std {aS : StepD} {r : ByteArray} (hh : s_StepLine aS = some r) (w : World) (hj : J0 w) (qaS : List Value) (LaS : List Nat) (haS : cStep.rep w qaS aS LaS) :
    Calls Tryd.prog 12 #[.agg qaS.toArray] w (fun e w' => e = .returned (.string r) ∧ Below w.heap.size w w') :=
  Sound.givesT (s_StepLine_ok hh) hj (vs := [_]) ⟨arg_agg encStep haS, trivial⟩

theorem iStepLine_std {aS : StepD} {r : ByteArray} (hh : i_StepLine aS = some r) (w : World) (hj : J0 w) (qaS : List Value) (LaS : List Nat) (haS : cStep.rep w qaS aS LaS) :
    Calls Tryd.prog 14 #[.agg qaS.toArray] w (fun e w' => e = .returned (.string r) ∧ Below w.heap.size w w') :=
  Sound.givesT (i_StepLine_ok hh) hj (vs := [_]) ⟨arg_agg encStep haS, trivial⟩

set_option maxRecDepth 100000 in
set_option maxHeartbeats 8000000 in
theorem FnExactStepLine_walk (w : World) (hJ : J0 w) (cs_aS : List Value) (aS : StepD) (L_aS : List Nat) (h_aS : cStep.rep w cs_aS aS L_aS) (wf_aS : wfStep aS) :
    Calls Tryd.prog 4 #[.agg cs_aS.toArray] w fun e w' => e = .returned (.bool true) ∧ Below w.heap.size w w' := by
  have HJ := Lib.hid hJ
  clear hJ
  have H_aS := Lib.hid h_aS
  clear h_aS
  obtain ⟨aS_A1, aS_c1, aS_A2, aS_c2, rfl⟩ := cStep_cells H_aS.out
  have B0 : Hid (Below w.heap.size w (w.alloc (.cells #[.string aS.fact.rel, .slice aS_A1 aS.fact.args.length aS_c1, .string aS.rule, .slice aS_A2 aS.uses.length aS_c2] 34))) := (Below.alloc (Below.refl _ _) (Nat.le_refl _) _)
  have sz0 : w.heap.size + 1 ≤ ((w.alloc (.cells #[.string aS.fact.rel, .slice aS_A1 aS.fact.args.length aS_c1, .string aS.rule, .slice aS_A2 aS.uses.length aS_c2] 34))).heap.size := Nat.le_of_eq (by simp only [World.alloc, Array.size_push])
  have K_aS : Hid (Blk (w.alloc (.cells #[.string aS.fact.rel, .slice aS_A1 aS.fact.args.length aS_c1, .string aS.rule, .slice aS_A2 aS.uses.length aS_c2] 34)) (w.heap.size) 34 #[.string aS.fact.rel, .slice aS_A1 aS.fact.args.length aS_c1, .string aS.rule, .slice aS_A2 aS.uses.length aS_c2]) := (Blk.new _ _ _)
  go_enter Tryd.func4, Tryd.ntmps4
  go_wp2_with fail
  refine (szStep_any [.string aS.fact.rel, .slice aS_A1 aS.fact.args.length aS_c1, .string aS.rule, .slice aS_A2 aS.uses.length aS_c2] aS L_aS _ _ (by omega) (by omega) (cStep.keep H_aS.out (keep_below B0.out (cStep.lt H_aS.out)))).mono ?_
  rintro e w1 ⟨rfl, hb⟩
  have B1 := Lib.hid (B0.out.trans (hb.mono B0.out.size))
  have sz1 := hb.size
  have K_aS := Lib.hid (K_aS.out.later hb)
  have f_aS_0 := K_aS.out.at (i := 0) rfl
  have f_aS_1 := K_aS.out.at (i := 1) rfl
  have f_aS_2 := K_aS.out.at (i := 2) rfl
  have f_aS_3 := K_aS.out.at (i := 3) rfl
  clear hb
  by_cases cc_aS : ((costStep aS : Nat) : Int) ≤ 1048576
  rotate_left
  · rw [szR_neg cc_aS]
    go_wp2
    go_ret
    exact ⟨rfl, B1.out⟩
  rw [szR_pos cc_aS]
  have cz_aS : costStep aS ≤ 1048576 := by omega
  have nn_aS : ¬ (1048576 - ((costStep aS : Nat) : Int) < 0) := by omega
  obtain ⟨R0, hs0, hi0⟩ := StepLine_plain aS cz_aS wf_aS
  go_wp2_with fail
  refine (toStep_any [.string aS.fact.rel, .slice aS_A1 aS.fact.args.length aS_c1, .string aS.rule, .slice aS_A2 aS.uses.length aS_c2] aS L_aS _ cz_aS (cStep.keep H_aS.out (keep_below B1.out (cStep.lt H_aS.out)))).mono ?_
  rintro e w2 ⟨cs, L_t1aS, rfl, gt, hb⟩
  obtain ⟨t1aS_A1, t1aS_c1, t1aS_A2, t1aS_c2, rfl⟩ := cStep_cells gt.rep
  have B2 := Lib.hid (B1.out.trans (hb.mono B1.out.size))
  have sz2 := hb.size
  have K_aS := Lib.hid (K_aS.out.later hb)
  clear f_aS_0 f_aS_1 f_aS_2 f_aS_3
  have f_aS_0 := K_aS.out.at (i := 0) rfl
  have f_aS_1 := K_aS.out.at (i := 1) rfl
  have f_aS_2 := K_aS.out.at (i := 2) rfl
  have f_aS_3 := K_aS.out.at (i := 3) rfl
  clear B1
  have V_t1aS := Lib.hid gt
  have ge_t1aS := Lib.hid gt.own.ge
  have lt_t1aS := Lib.hid gt.lt
  clear gt hb
  go_wp2_with fail
  refine (sStepLine_std hs0 _ (jok_below hJ0 HJ.out B2.out) [.string aS.fact.rel, .slice t1aS_A1 aS.fact.args.length t1aS_c1, .string aS.rule, .slice t1aS_A2 aS.uses.length t1aS_c2] L_t1aS V_t1aS.out.rep).mono ?_
  rintro e w3 ⟨rfl, hb⟩
  have B3 := Lib.hid (B2.out.trans (hb.mono B2.out.size))
  have sz3 := hb.size
  have V_t1aS := Lib.hid (V_t1aS.out.later hb)
  have K_aS := Lib.hid (K_aS.out.later hb)
  clear f_aS_0 f_aS_1 f_aS_2 f_aS_3
  have f_aS_0 := K_aS.out.at (i := 0) rfl
  have f_aS_1 := K_aS.out.at (i := 1) rfl
  have f_aS_2 := K_aS.out.at (i := 2) rfl
  have f_aS_3 := K_aS.out.at (i := 3) rfl
  clear B2
  clear hb
  clear V_t1aS
  go_wp2_with fail
  refine (toStep_any [.string aS.fact.rel, .slice aS_A1 aS.fact.args.length aS_c1, .string aS.rule, .slice aS_A2 aS.uses.length aS_c2] aS L_aS _ cz_aS (cStep.keep H_aS.out (keep_below B3.out (cStep.lt H_aS.out)))).mono ?_
  rintro e w4 ⟨cs, L_x0, rfl, gt, hb⟩
  obtain ⟨x0_A1, x0_c1, x0_A2, x0_c2, rfl⟩ := cStep_cells gt.rep
  have B4 := Lib.hid (B3.out.trans (hb.mono B3.out.size))
  have sz4 := hb.size
  have K_aS := Lib.hid (K_aS.out.later hb)
  clear f_aS_0 f_aS_1 f_aS_2 f_aS_3
  have f_aS_0 := K_aS.out.at (i := 0) rfl
  have f_aS_1 := K_aS.out.at (i := 1) rfl
  have f_aS_2 := K_aS.out.at (i := 2) rfl
  have f_aS_3 := K_aS.out.at (i := 3) rfl
  clear B3
  have V_x0 := Lib.hid gt
  have ge_x0 := Lib.hid gt.own.ge
  have lt_x0 := Lib.hid gt.lt
  clear gt hb
  have hb := (Below.refl w4.heap.size w4).alloc (Nat.le_refl _) (.cells #[.string aS.fact.rel, .slice x0_A1 aS.fact.args.length x0_c1, .string aS.rule, .slice x0_A2 aS.uses.length x0_c2] 39)
  have B5 := Lib.hid (B4.out.trans (hb.mono B4.out.size))
  have sz5 := hb.size
  have V_x0 := Lib.hid (V_x0.out.later hb)
  have K_aS := Lib.hid (K_aS.out.later hb)
  clear f_aS_0 f_aS_1 f_aS_2 f_aS_3
  have f_aS_0 := K_aS.out.at (i := 0) rfl
  have f_aS_1 := K_aS.out.at (i := 1) rfl
  have f_aS_2 := K_aS.out.at (i := 2) rfl
  have f_aS_3 := K_aS.out.at (i := 3) rfl
  clear B4
  have szb_x0 : w4.heap.size + 1 ≤ (w4.alloc (.cells #[.string aS.fact.rel, .slice x0_A1 aS.fact.args.length x0_c1, .string aS.rule, .slice x0_A2 aS.uses.length x0_c2] 39)).heap.size := Nat.le_of_eq (by simp only [World.alloc, Array.size_push])
  have K_x0 : Hid (Blk (w4.alloc (.cells #[.string aS.fact.rel, .slice x0_A1 aS.fact.args.length x0_c1, .string aS.rule, .slice x0_A2 aS.uses.length x0_c2] 39)) w4.heap.size 39 #[.string aS.fact.rel, .slice x0_A1 aS.fact.args.length x0_c1, .string aS.rule, .slice x0_A2 aS.uses.length x0_c2]) := Blk.new _ _ _
  have f_x0_0 := K_x0.out.at (i := 0) rfl
  have f_x0_1 := K_x0.out.at (i := 1) rfl
  have f_x0_2 := K_x0.out.at (i := 2) rfl
  have f_x0_3 := K_x0.out.at (i := 3) rfl
  clear hb
  go_wp2_with fail
  refine (iStepLine_std hi0 _ (jok_below hJ0 HJ.out B5.out) [.string aS.fact.rel, .slice x0_A1 aS.fact.args.length x0_c1, .string aS.rule, .slice x0_A2 aS.uses.length x0_c2] L_x0 V_x0.out.rep).mono ?_
  rintro e w6 ⟨rfl, hb⟩
  have B6 := Lib.hid (B5.out.trans (hb.mono B5.out.size))
  have sz6 := hb.size
  have V_x0 := Lib.hid (V_x0.out.later hb)
  have K_aS := Lib.hid (K_aS.out.later hb)
  clear f_aS_0 f_aS_1 f_aS_2 f_aS_3
  have f_aS_0 := K_aS.out.at (i := 0) rfl
  have f_aS_1 := K_aS.out.at (i := 1) rfl
  have f_aS_2 := K_aS.out.at (i := 2) rfl
  have f_aS_3 := K_aS.out.at (i := 3) rfl
  have K_x0 := Lib.hid (K_x0.out.later hb)
  clear f_x0_0 f_x0_1 f_x0_2 f_x0_3
  have f_x0_0 := K_x0.out.at (i := 0) rfl
  have f_x0_1 := K_x0.out.at (i := 1) rfl
  have f_x0_2 := K_x0.out.at (i := 2) rfl
  have f_x0_3 := K_x0.out.at (i := 3) rfl
  clear B5
  clear hb
  have hne : True := trivial
  go_wp2_with fail
  go_region_held3 (fun W => W.cell? ⟨w4.heap.size, 0, none⟩ = some (.string aS.fact.rel) ∧ W.cell? ⟨w4.heap.size, 1, none⟩ = some (.slice x0_A1 aS.fact.args.length x0_c1) ∧ W.cell? ⟨w4.heap.size, 2, none⟩ = some (.string aS.rule) ∧ W.cell? ⟨w4.heap.size, 3, none⟩ = some (.slice x0_A2 aS.uses.length x0_c2) ∧ W.cell? ⟨w.heap.size, 0, none⟩ = some (.string aS.fact.rel) ∧ W.cell? ⟨w.heap.size, 1, none⟩ = some (.slice aS_A1 aS.fact.args.length aS_c1) ∧ W.cell? ⟨w.heap.size, 2, none⟩ = some (.string aS.rule) ∧ W.cell? ⟨w.heap.size, 3, none⟩ = some (.slice aS_A2 aS.uses.length aS_c2)) (first | exact ⟨f_x0_0, f_x0_1, f_x0_2, f_x0_3, f_aS_0, f_aS_1, f_aS_2, f_aS_3⟩ | exact ⟨r_x0_0, r_x0_1, r_x0_2, r_x0_3, r_aS_0, r_aS_1, r_aS_2, r_aS_3⟩) (first | (go_at_call 13; refine (toStep_any [.string aS.fact.rel, .slice aS_A1 aS.fact.args.length aS_c1, .string aS.rule, .slice aS_A2 aS.uses.length aS_c2] aS L_aS _ cz_aS (cStep.keep H_aS.out (keep_below B6.out.drew (cStep.lt H_aS.out)))).mono ?_; rintro e w7 ⟨cs, L_t6aS, rfl, gt, hb⟩; obtain ⟨t6aS_A1, t6aS_c1, t6aS_A2, t6aS_c2, rfl⟩ := cStep_cells gt.rep; replace hb := below_of_drew0 hb (Nat.le_refl _); have KA := K_aS.out.later hb; have KX := K_x0.out.later hb; have r_x0_0 := KX.at (i := 0) rfl; have r_x0_1 := KX.at (i := 1) rfl; have r_x0_2 := KX.at (i := 2) rfl; have r_x0_3 := KX.at (i := 3) rfl; have r_aS_0 := KA.at (i := 0) rfl; have r_aS_1 := KA.at (i := 1) rfl; have r_aS_2 := KA.at (i := 2) rfl; have r_aS_3 := KA.at (i := 3) rfl) | (go_at_call 15; refine (eqStep_any [.string aS.fact.rel, .slice x0_A1 aS.fact.args.length x0_c1, .string aS.rule, .slice x0_A2 aS.uses.length x0_c2] [.string aS.fact.rel, .slice t6aS_A1 aS.fact.args.length t6aS_c1, .string aS.rule, .slice t6aS_A2 aS.uses.length t6aS_c2] aS L_x0 L_t6aS _ (V_x0.out.later hb).rep gt.rep).mono ?_; rintro e w8 ⟨rfl, hb2⟩; have KX2 := KX.later hb2; have KA2 := KA.later hb2; replace r_x0_0 := KX2.at (i := 0) rfl; replace r_x0_1 := KX2.at (i := 1) rfl; replace r_x0_2 := KX2.at (i := 2) rfl; replace r_x0_3 := KX2.at (i := 3) rfl; replace r_aS_0 := KA2.at (i := 0) rfl; replace r_aS_1 := KA2.at (i := 1) rfl; replace r_aS_2 := KA2.at (i := 2) rfl; replace r_aS_3 := KA2.at (i := 3) rfl))
  clear KA KX KA2 KX2 r_x0_0 r_x0_1 r_x0_2 r_x0_3 r_aS_0 r_aS_1 r_aS_2 r_aS_3
  have B7 := Lib.hid (B6.out.trans (hb.mono B6.out.size))
  have sz7 := hb.size
  have V_x0 := Lib.hid (V_x0.out.later hb)
  have K_aS := Lib.hid (K_aS.out.later hb)
  clear f_aS_0 f_aS_1 f_aS_2 f_aS_3
  have f_aS_0 := K_aS.out.at (i := 0) rfl
  have f_aS_1 := K_aS.out.at (i := 1) rfl
  have f_aS_2 := K_aS.out.at (i := 2) rfl
  have f_aS_3 := K_aS.out.at (i := 3) rfl
  have K_x0 := Lib.hid (K_x0.out.later hb)
  clear f_x0_0 f_x0_1 f_x0_2 f_x0_3
  have f_x0_0 := K_x0.out.at (i := 0) rfl
  have f_x0_1 := K_x0.out.at (i := 1) rfl
  have f_x0_2 := K_x0.out.at (i := 2) rfl
  have f_x0_3 := K_x0.out.at (i := 3) rfl
  clear B6
  clear hb gt
  have B8 := Lib.hid (B7.out.trans (hb2.mono B7.out.size))
  have sz8 := hb2.size
  have V_x0 := Lib.hid (V_x0.out.later hb2)
  have K_aS := Lib.hid (K_aS.out.later hb2)
  clear f_aS_0 f_aS_1 f_aS_2 f_aS_3
  have f_aS_0 := K_aS.out.at (i := 0) rfl
  have f_aS_1 := K_aS.out.at (i := 1) rfl
  have f_aS_2 := K_aS.out.at (i := 2) rfl
  have f_aS_3 := K_aS.out.at (i := 3) rfl
  have K_x0 := Lib.hid (K_x0.out.later hb2)
  clear f_x0_0 f_x0_1 f_x0_2 f_x0_3
  have f_x0_0 := K_x0.out.at (i := 0) rfl
  have f_x0_1 := K_x0.out.at (i := 1) rfl
  have f_x0_2 := K_x0.out.at (i := 2) rfl
  have f_x0_3 := K_x0.out.at (i := 3) rfl
  clear B7
  clear hb2
  go_wp2_with fail
  go_ret
  exact ⟨rfl, B8.out⟩

end Go.Proofs.YtppjenkjopjeiaaDoor

namespace Go.Proofs.YtppjenkjopjeiaaDoor
open Go.RowKit

set_option maxRecDepth 100000 in
theorem opensFact : Opens Tryd.prog 31 cFact wfFact := by
  intro H enc w base spare held fuel cs x h
  obtain ⟨xs, n, _, _, hlen, hxl, hf⟩ := DataW.trod_struct Tryd.underlying31 h
  have hl : cs.length = 2 := hlen.trans (by kernel_rfl)
  have hx : xs.length = 2 := hxl
  match cs, hl with
  | [a0, a1], _ =>
    have f0 : DataW.trod enc Tryd.prog w base spare held n 9 [a0] = some (xs[0]'(by omega)) := by
      have this : DataW.trod enc Tryd.prog w base spare held n 9 (List.take (Tryd.prog.cellsOf 9) (List.drop 0 [a0, a1])) = _ := (hf 0 _ rfl).trans (List.getElem?_eq_getElem (show 0 < xs.length by omega))
      rw [show Tryd.prog.cellsOf 9 = 1 by kernel_rfl] at this
      exact this
    have f1 : DataW.trod enc Tryd.prog w base spare held n 29 [a1] = some (xs[1]'(by omega)) := by
      have this : DataW.trod enc Tryd.prog w base spare held n 29 (List.take (Tryd.prog.cellsOf 29) (List.drop 1 [a0, a1])) = _ := (hf 1 _ rfl).trans (List.getElem?_eq_getElem (show 1 < xs.length by omega))
      rw [show Tryd.prog.cellsOf 29 = 1 by kernel_rfl] at this
      exact this
    obtain ⟨d0, M0, r0, w0⟩ := (opens_string Tryd.underlying9) f0
    obtain ⟨e0, _, t0⟩ := r0
    cases e0
    obtain ⟨d1, M1, r1, w1⟩ := (opens_slice Tryd.underlying29 (by kernel_rfl) (opens_string Tryd.underlying9)) f1
    obtain ⟨A1, c1, e1, n1, m1, s1⟩ := r1
    cases e1
    exact ⟨⟨d0, d1⟩, _, ⟨A1, c1, M1, rfl, rfl, t0, n1, m1, s1⟩, ⟨w0, w1⟩⟩

set_option maxRecDepth 100000 in
theorem opensStep : Opens Tryd.prog 34 cStep wfStep := by
  intro H enc w base spare held fuel cs x h
  obtain ⟨xs, n, _, _, hlen, hxl, hf⟩ := DataW.trod_struct Tryd.underlying34 h
  have hl : cs.length = 4 := hlen.trans (by kernel_rfl)
  have hx : xs.length = 3 := hxl
  match cs, hl with
  | [a0, a1, a2, a3], _ =>
    have f0 : DataW.trod enc Tryd.prog w base spare held n 31 [a0, a1] = some (xs[0]'(by omega)) := by
      have this : DataW.trod enc Tryd.prog w base spare held n 31 (List.take (Tryd.prog.cellsOf 31) (List.drop 0 [a0, a1, a2, a3])) = _ := (hf 0 _ rfl).trans (List.getElem?_eq_getElem (show 0 < xs.length by omega))
      rw [show Tryd.prog.cellsOf 31 = 2 by kernel_rfl] at this
      exact this
    have f1 : DataW.trod enc Tryd.prog w base spare held n 9 [a2] = some (xs[1]'(by omega)) := by
      have this : DataW.trod enc Tryd.prog w base spare held n 9 (List.take (Tryd.prog.cellsOf 9) (List.drop 2 [a0, a1, a2, a3])) = _ := (hf 1 _ rfl).trans (List.getElem?_eq_getElem (show 1 < xs.length by omega))
      rw [show Tryd.prog.cellsOf 9 = 1 by kernel_rfl] at this
      exact this
    have f2 : DataW.trod enc Tryd.prog w base spare held n 32 [a3] = some (xs[2]'(by omega)) := by
      have this : DataW.trod enc Tryd.prog w base spare held n 32 (List.take (Tryd.prog.cellsOf 32) (List.drop 3 [a0, a1, a2, a3])) = _ := (hf 2 _ rfl).trans (List.getElem?_eq_getElem (show 2 < xs.length by omega))
      rw [show Tryd.prog.cellsOf 32 = 1 by kernel_rfl] at this
      exact this
    obtain ⟨d0, M0, r0, w0⟩ := opensFact f0
    obtain ⟨A1, c1, N1, e0, g0, t0, n1, m1, s1⟩ := r0
    cases e0
    subst g0
    obtain ⟨d1, M1, r1, w1⟩ := (opens_string Tryd.underlying9) f1
    obtain ⟨e1, _, t1⟩ := r1
    cases e1
    obtain ⟨d2, M2, r2, w2⟩ := (opens_slice Tryd.underlying32 (by kernel_rfl) (opens_int Tryd.underlying3)) f2
    obtain ⟨A2, c2, e2, n2, m2, s2⟩ := r2
    cases e2
    exact ⟨⟨d0, d1, d2⟩, _, ⟨A1, c1, M0, A2, c2, M2, rfl, rfl, t0, t1, n1, m1, s1, n2, m2, s2⟩, ⟨w0, w1, w2⟩⟩

end Go.Proofs.YtppjenkjopjeiaaDoor
