/- Texts of this proof, joined: Mark, Held, Open, ExactLabelFor, Opens. What each holds is said at its theorems. -/
import Derived.Test.YtccbhhglghboaaaProg
import Derived.Test.YtccbhhglghboaaaLabelForQ4
import Derived.Outline
import Derived.WalkSpells
import Derived.StillTailTactics
import Derived.Deep.RegionHeld3
import Derived.Test.YtccbhhglghboaaaLabelForQ1
import Derived.Deep.Slices
import Derived.ChangeArms
import Derived.ProofKit
import Derived.Test.YtccbhhglghboaaaLabelForQ2
set_option linter.unusedSimpArgs false
set_option linter.unusedVariables false
namespace Go.Proofs.Ytccbhhglghboaaa
open Go.RowKit

theorem blk_only {w w1 : World} {g : Nat} {t : TypeId} {cs : Array Value} {M : List Nat} (h : Blk w g t cs) (ho : Only M w w1) (hg : g ∉ M) : Blk w1 g t cs := (ho.block g h.lt hg).trans h

set_option maxHeartbeats 1600000 in
theorem markIntS_any (A : Option Addr) (n c : Nat) (ds : List Int) (L : List Nat) (base : Nat) (k : Int) (w : World) (hn : n = ds.length) (hk0 : 1 ≤ k) (hk1 : nextIntS k ds ≤ 4611686018427387904) (h : Got (sliceC intC) base [.slice A n c] ds L w) :
    Calls Try.prog 32 #[.slice A n c, .int .i64 k] w fun e w' => e = .returned (.int .i64 (nextIntS k ds)) ∧ Got (sliceC intC) base [.slice A n c] (mkIntS k ds) L w' ∧ Only L w w' := by
  have H := Lib.hid h
  have HN := Lib.hid hn
  have hk1' : k + n ≤ 4611686018427387904 := by simp only [nextIntS] at hk1; omega
  clear h hn hk1
  go_enter Try.func32, Try.ntmps32
  go_wp2
  go_loopw [1, 5] (fun q j wr => ∃ (i : Nat) (kk : Int) (D : List Int), i ≤ n ∧ j = .int .i64 i ∧ q = .int .i64 kk ∧ 1 ≤ kk ∧ kk + (n - i : Nat) ≤ 4611686018427387904 ∧ Hid (kk = k + i ∧ D.length = i ∧ D ++ mkIntS kk (ds.drop i) = mkIntS k ds) ∧ Hid (Got (sliceC intC) base [.slice A n c] (D ++ ds.drop i) L wr) ∧ Hid (Only L w wr)) (fun _ j _ => n - (intOf j).toNat)
  case atStart => exact ⟨0, k, [], Nat.zero_le _, rfl, rfl, hk0, by omega, ⟨by omega, rfl, rfl⟩, H.out, Only.refl _ _⟩
  case round =>
    obtain ⟨i, kk, D, hi, rfl, rfl, h1, h2, HD, HG, HO⟩ := hrel
    by_cases hlt : i < n
    · have hil : i < ds.length := by have := HN.out; omega
      obtain ⟨hkk, hDl, hDm⟩ := HD.out
      have hcl : i < (D ++ ds.drop i).length := by simp; omega
      obtain ⟨b, off, cs, Lk, rfl, hbL, hLk, hown, hrep, hcells, hput⟩ := HG.out.focus hcl
      obtain ⟨rfl, hlk⟩ := hrep
      have HEl := Lib.hid (Elem.start (m := 1) hcells rfl hown)
      have hnext : Hid (ds.drop i = ds[i] :: ds.drop (i + 1)) := List.drop_eq_getElem_cons _
      have HPut := Lib.hid hput
      have HOwn := Lib.hid hown
      have HLk := Lib.hid hLk
      have HLe := Lib.hid hlk
      have HDn : Hid (kk + 1 = k + (i + 1 : Nat) ∧ (D ++ [kk]).length = i + 1 ∧ (D ++ [kk]) ++ mkIntS (kk + 1) (ds.drop (i + 1)) = mkIntS k ds) := by
        refine ⟨by omega, by simp [hDl], ?_⟩
        rw [← hDm, hnext.out]; simp [mkIntS]
      have hset : Hid ((D ++ ds.drop i).set i (kk) = (D ++ [kk]) ++ ds.drop (i + 1)) := by
        rw [Hid, List.set_append_right _ _ (by omega), show i - D.length = 0 by omega, hnext.out, List.set_cons_zero]; simp
      clear hput hown hLk hcells hkk hDl hDm hlk
      simp only [show intC.size = 1 from rfl, Nat.mul_one] at HEl HPut
      have q1 := HEl.out.at (j := 0) rfl
      have z1 := HEl.out.frozen (off + i)
      simp only [Nat.add_zero] at q1
      go_wp2_with fail
      have E2 := Lib.hid (HEl.out.set 0 (by omega) (.int .i64 kk))
      have hO2 := Lib.hid (own_cons_keep HOwn.out E2.out.plain E2.out.only (by rw [HLe.out]; simp))
      have HGn := Lib.hid (HPut.out _ _ (kk) E2.out.only E2.out.cells E2.out.rest (by rw [HLe.out]; exact ⟨rfl, rfl⟩) hO2.out)
      have HOn := Lib.hid (HO.out.trans (E2.out.only.mono (fun y m => by rcases List.mem_cons.1 m with rfl | m; exact hbL; exact HLk.out y m)))
      rw [hset.out] at HGn
      simp only [Nat.add_zero] at HGn HOn
      clear E2 hO2 HPut
      go_wp2_with fail
      go_roundw
      case rel => exact ⟨i + 1, kk + 1, _, by omega, by go_num, rfl, by omega, by omega, HDn, HGn, HOn⟩
      case measure => simp [intOf]; omega
    · obtain rfl : i = n := by omega
      have hf : Hid (nextIntS k ds = kk ∧ D = mkIntS k ds) := by
        obtain ⟨h1, h2, h3⟩ := HD.out
        have e : ds.drop i = [] := List.drop_of_length_le (by have := HN.out; omega)
        rw [e] at h3
        simp [mkIntS] at h3
        exact ⟨by have := HN.out; simp only [nextIntS]; omega, h3⟩
      have e : Hid (ds.drop i = []) := List.drop_of_length_le (by have := HN.out; omega)
      rw [e.out, List.append_nil] at HG
      go_wp2
      go_ret
      exact ⟨ret_i hf.out.1.symm, by rw [← hf.out.2]; exact HG.out, HO.out⟩

set_option maxRecDepth 100000 in
set_option maxHeartbeats 4000000 in
theorem markReasonS_any (A : Option Addr) (n c : Nat) (ds : List ReasonD) (L : List Nat) (base : Nat) (k : Int) (w : World) (hn : n = ds.length) (hm : n ≤ 9223372036854775807) (hk0 : 1 ≤ k) (hk1 : nextReasonS k ds ≤ 4611686018427387904) (h : Got (sliceC cReason) base [.slice A n c] ds L w) :
    Calls Try.prog 126 #[.slice A n c, .int .i64 k] w fun e w' => e = .returned (.int .i64 (nextReasonS k ds)) ∧ Got (sliceC cReason) base [.slice A n c] (mkReasonS k ds) L w' ∧ Only L w w' := by
  have H := Lib.hid h
  have HN := Lib.hid hn
  have HK := Lib.hid hk1
  clear h hn hk1
  go_enter Try.func126, Try.ntmps126
  go_wp2
  go_loopw [1, 5] (fun q j wr => ∃ (i : Nat) (kk : Int) (D : List ReasonD), i ≤ n ∧ j = .int .i64 i ∧ q = .int .i64 kk ∧ 1 ≤ kk ∧ Hid (nextReasonS kk (ds.drop i) = nextReasonS k ds ∧ D.length = i ∧ D ++ mkReasonS kk (ds.drop i) = mkReasonS k ds) ∧ Hid (Got (sliceC cReason) base [.slice A n c] (D ++ ds.drop i) L wr) ∧ Hid (Only L w wr)) (fun _ j _ => n - (intOf j).toNat)
  case atStart => exact ⟨0, k, [], Nat.zero_le _, rfl, rfl, hk0, ⟨rfl, rfl, rfl⟩, H.out, Only.refl _ _⟩
  case round =>
    obtain ⟨i, kk, D, hi, rfl, rfl, h1, HD, HG, HO⟩ := hrel
    by_cases hlt : i < n
    · have hil : i < ds.length := by have := HN.out; omega
      obtain ⟨hkk, hDl, hDm⟩ := HD.out
      have hcl : i < (D ++ ds.drop i).length := by simp; omega
      obtain ⟨b, off, cs, Lk, rfl, hbL, hLk, hown, hrep, hcells, hput⟩ := HG.out.focus hcl
      have hnext : Hid (ds.drop i = ds[i] :: ds.drop (i + 1)) := List.drop_eq_getElem_cons _
      have hxi : (D ++ ds.drop i)[i] = ds[i] := by
        rw [List.getElem_append_right (by omega)]; simp [hDl]
      rw [hxi] at hrep
      clear hxi
      generalize ds[i] = x at hrep hnext
      have hnb : Hid (nextReason kk x ≤ 4611686018427387904) := by
        have := nextReasonS_ge (nextReason kk x) (ds.drop (i + 1))
        rw [hnext.out] at hkk
        have hk := HK.out
        rw [← hkk] at hk
        exact Int.le_trans this hk
      have hnb1 := hnb.out
      have hnb2 := nextReason_ge kk x
      unfold nextReason at hnb1 hnb2
      have HDn : Hid (nextReasonS (nextReason kk x) (ds.drop (i + 1)) = nextReasonS k ds ∧ (D ++ [mkReason kk x]).length = i + 1 ∧ (D ++ [mkReason kk x]) ++ mkReasonS (nextReason kk x) (ds.drop (i + 1)) = mkReasonS k ds) := by
        refine ⟨by rw [← hkk, hnext.out]; rfl, by simp [hDl], ?_⟩
        rw [← hDm, hnext.out]; simp [mkReasonS]
      have hset : Hid ((D ++ ds.drop i).set i (mkReason kk x) = (D ++ [mkReason kk x]) ++ ds.drop (i + 1)) := by
        rw [Hid, List.set_append_right _ _ (by omega), show i - D.length = 0 by omega, hnext.out, List.set_cons_zero]; simp
      obtain ⟨A1, c1, L1, A2, c2, L2, rfl, hLL, n1, m1, s1, n2, m2, s2⟩ := hrep
      unfold maxLen at m1 m2
      subst hLL
      have HEl := Lib.hid (Elem.start (m := 3) hcells rfl hown)
      have hbn := Lib.hid hown.head
      have G1 : Hid (Got (sliceC intC) base [.slice A1 x.inn.length c1] x.inn L1 wr) := ⟨⟨A1, c1, rfl, n1, (by unfold maxLen; omega), s1⟩, hown.tail.left⟩
      have bn1 : Hid (b ∉ L1) := fun m => hown.head (by simp [m])
      have sb1 : Hid (∀ y ∈ L1, y ∈ L1 ++ L2) := fun y m => by simp [m]
      have ap1_2 : Hid (∀ y ∈ L1, y ∉ L2) := fun y m m' => hown.tail.apart y m (by simp [m'])
      have ap2_1 : Hid (∀ y ∈ L2, y ∉ L1) := fun y m m' => ap1_2.out y m' m
      have G2 : Hid (Got (sliceC intC) base [.slice A2 x.outs.length c2] x.outs L2 wr) := ⟨⟨A2, c2, rfl, n2, (by unfold maxLen; omega), s2⟩, hown.tail.right⟩
      have bn2 : Hid (b ∉ L2) := fun m => hown.head (by simp [m])
      have sb2 : Hid (∀ y ∈ L2, y ∈ L1 ++ L2) := fun y m => by simp [m]
      clear s1
      clear s2
      have HPut := Lib.hid hput
      have HOwn := Lib.hid hown
      have HLk := Lib.hid hLk
      clear hput hown hLk hcells hkk hDl hDm
      simp only [show cReason.size = 3 from rfl] at HEl HPut
      have q0 := HEl.out.at (j := 0) rfl
      have z0 := HEl.out.frozen (off + i * 3)
      have q1 := HEl.out.at (j := 1) rfl
      have z1 := HEl.out.frozen (off + i * 3 + 1)
      have q2 := HEl.out.at (j := 2) rfl
      have z2 := HEl.out.frozen (off + i * 3 + 2)
      simp only [Nat.add_zero] at q0
      have gm0 : (0 : Int) ≤ 0 := by omega
      have mono_x_inn := nextIntS_ge (kk + 1) x.inn
      have mono_x_outs := nextIntS_ge (nextIntS (kk + 1) x.inn) x.outs
      go_wp2_with fail
      have G1 := Lib.hid (G1.out.setFar (p := ⟨b, off + i * 3 + 0, none⟩) bn1.out (.int .i64 (kk)))
      refine (markIntS_any A1 _ c1 x.inn L1 base _ _ rfl (by omega) (by omega) G1.out).mono ?_
      rintro e w1 ⟨rfl, g1, on1⟩
      have HEl := Lib.hid ((HEl.out.set 0 (by omega) (.int .i64 (kk))).marked on1 sb1.out bn1.out)
      have G1 := Lib.hid g1
      have G2 := Lib.hid ((G2.out.setFar (p := ⟨b, off + i * 3 + 0, none⟩) bn2.out (.int .i64 (kk))).only on1 ap2_1.out)
      clear g1 on1
      clear q0 z0 q1 z1 q2 z2
      have q0 := HEl.out.at (j := 0) rfl
      have z0 := HEl.out.frozen (off + i * 3)
      have q1 := HEl.out.at (j := 1) rfl
      have z1 := HEl.out.frozen (off + i * 3 + 1)
      have q2 := HEl.out.at (j := 2) rfl
      have z2 := HEl.out.frozen (off + i * 3 + 2)
      simp only [Nat.add_zero] at q0
      go_wp2_with fail
      refine (markIntS_any A2 _ c2 x.outs L2 base _ _ rfl (by omega) (by omega) G2.out).mono ?_
      rintro e w2 ⟨rfl, g2, on2⟩
      have HEl := Lib.hid (HEl.out.marked on2 sb2.out bn2.out)
      have G1 := Lib.hid (G1.out.only on2 ap1_2.out)
      have G2 := Lib.hid g2
      clear g2 on2
      clear q0 z0 q1 z1 q2 z2
      have q0 := HEl.out.at (j := 0) rfl
      have z0 := HEl.out.frozen (off + i * 3)
      have q1 := HEl.out.at (j := 1) rfl
      have z1 := HEl.out.frozen (off + i * 3 + 1)
      have q2 := HEl.out.at (j := 2) rfl
      have z2 := HEl.out.frozen (off + i * 3 + 2)
      simp only [Nat.add_zero] at q0
      obtain ⟨nn1, mm1, ss1⟩ := sliceC_out G1.out.rep
      obtain ⟨nn2, mm2, ss2⟩ := sliceC_out G2.out.rep
      have hO2 := Lib.hid (own_cons_keep HOwn.out HEl.out.plain HEl.out.only (fun y m => by (try simp only [List.mem_append] at m); rcases m with m | m <;> first | exact G1.out.own.plain y m | exact G2.out.own.plain y m))
      have HGn := Lib.hid (HPut.out _ _ (mkReason kk x) HEl.out.only HEl.out.cells HEl.out.rest ⟨A1, c1, L1, A2, c2, L2, by simp [mkReason, mkIntS_len, mkIntS_len], rfl, nn1, mm1, ss1, nn2, mm2, ss2⟩ hO2.out)
      have HOn := Lib.hid (HO.out.trans (HEl.out.only.mono (fun y m => by rcases List.mem_cons.1 m with rfl | m; exact hbL; exact HLk.out y m)))
      rw [hset.out] at HGn
      try simp only [Nat.add_zero] at HGn HOn
      clear HEl hO2 HPut G1 G2 nn1 nn2 mm1 mm2 ss1 ss2
      go_wp2_with fail
      go_roundw
      case rel => exact ⟨i + 1, nextReason kk x, _, by omega, by go_num, rfl, by unfold nextReason; omega, HDn, HGn, HOn⟩
      case measure => simp [intOf]; omega
    · obtain rfl : i = n := by omega
      have e : Hid (ds.drop i = []) := List.drop_of_length_le (by have := HN.out; omega)
      have hf : Hid (nextReasonS k ds = kk ∧ D = mkReasonS k ds) := by
        obtain ⟨h1, h2, h3⟩ := HD.out
        rw [e.out] at h3 h1
        simp [mkReasonS] at h3
        exact ⟨h1.symm, h3⟩
      rw [e.out, List.append_nil] at HG
      go_wp2
      go_ret
      exact ⟨ret_i hf.out.1.symm, by rw [← hf.out.2]; exact HG.out, HO.out⟩

def mkvBeliefs (k : Int) (x : BeliefsD) : BeliefsD := ⟨x.nodes, mkReasonS (k) x.reasons⟩
def vnextBeliefs (k : Int) (x : BeliefsD) : Int := nextReasonS (k) x.reasons
theorem vnextBeliefs_ge (k : Int) (x : BeliefsD) : k ≤ vnextBeliefs k x := by
  unfold vnextBeliefs
  have := nextReasonS_ge (k) x.reasons
  omega
theorem vnextBeliefs_le (k : Int) (x : BeliefsD) : vnextBeliefs k x ≤ k + 16 * costBeliefs x := by
  unfold vnextBeliefs
  have := nextReasonS_le (k) x.reasons
  simp only [costBeliefs]
  omega
set_option maxHeartbeats 1600000 in
theorem markBeliefs_sl (x : BeliefsD) (A1 : Option Addr) (c1 : Nat) (L1 : List Nat) (base : Nat) (k : Int) (w : World) (hk0 : 1 ≤ k) (hk1 : vnextBeliefs k x ≤ 4611686018427387904) (l1 : x.reasons.length ≤ 9223372036854775807) (g1 : Got (sliceC cReason) base [.slice A1 x.reasons.length c1] (x.reasons) L1 w)  :
    Calls Try.prog 76 #[.agg #[.int .i64 x.nodes, .slice A1 x.reasons.length c1], .int .i64 k] w fun e w' => e = .returned (.int .i64 (vnextBeliefs k x)) ∧ Got (sliceC cReason) base [.slice A1 x.reasons.length c1] (mkReasonS (k) x.reasons) L1 w' ∧ Only (L1) w w' := by
  have bn1 : Hid (w.heap.size ∉ L1) := fun m => Nat.lt_irrefl _ (g1.lt _ m)
  have G1 := Lib.hid (g1.alloc (.cells #[.int .i64 x.nodes, .slice A1 x.reasons.length c1] 50))
  have K0 : Hid (Blk (w.alloc (.cells #[.int .i64 x.nodes, .slice A1 x.reasons.length c1] 50)) w.heap.size 50 #[.int .i64 x.nodes, .slice A1 x.reasons.length c1]) := Blk.new _ _ _
  have O0 : Hid (Only (L1) w (w.alloc (.cells #[.int .i64 x.nodes, .slice A1 x.reasons.length c1] 50))) := Only.of_below ((Below.refl _ _).alloc (Nat.le_refl _) _) _
  clear g1
  unfold vnextBeliefs at hk1
  have := nextReasonS_ge (k) x.reasons
  go_enter Try.func76, Try.ntmps76
  go_wp2_with fail
  refine (markReasonS_any A1 _ c1 x.reasons L1 base _ _ rfl (by omega) (by omega) (by omega) G1.out).mono ?_
  rintro e w1 ⟨rfl, h1, on1⟩
  have G1 := Lib.hid h1
  have K1 := Lib.hid (blk_only K0.out on1 bn1.out)
  have f0 := K1.out.at (i := 0) rfl
  have f1 := K1.out.at (i := 1) rfl
  have O1 : Hid (Only (L1) w w1) := O0.out.trans (on1.mono (fun y m => by first | exact m | simp [m] | (simp only [List.mem_append] at m ⊢; rcases m with m | m <;> simp [m])))
  clear on1 h1
  go_wp2_with fail
  go_ret
  exact ⟨ret_i rfl, G1.out, O1.out⟩
def mkvFrame (k : Int) (x : FrameD) : FrameD := ⟨mkvBeliefs (k) x.beliefs, mkIntS (vnextBeliefs (k) x.beliefs) x.assumed, mkIntS (nextIntS (vnextBeliefs (k) x.beliefs) x.assumed) x.bad⟩
def vnextFrame (k : Int) (x : FrameD) : Int := nextIntS (nextIntS (vnextBeliefs (k) x.beliefs) x.assumed) x.bad
theorem vnextFrame_ge (k : Int) (x : FrameD) : k ≤ vnextFrame k x := by
  unfold vnextFrame
  have := vnextBeliefs_ge (k) x.beliefs
  have := nextIntS_ge (vnextBeliefs (k) x.beliefs) x.assumed
  have := nextIntS_ge (nextIntS (vnextBeliefs (k) x.beliefs) x.assumed) x.bad
  omega
theorem vnextFrame_le (k : Int) (x : FrameD) : vnextFrame k x ≤ k + 16 * costFrame x := by
  unfold vnextFrame
  have := vnextBeliefs_le (k) x.beliefs
  have := nextIntS_le (vnextBeliefs (k) x.beliefs) x.assumed
  have := nextIntS_le (nextIntS (vnextBeliefs (k) x.beliefs) x.assumed) x.bad
  simp only [costFrame]
  omega
set_option maxHeartbeats 1600000 in
theorem markFrame_sl (x : FrameD) (A1 : Option Addr) (c1 : Nat) (L1 : List Nat) (A2 : Option Addr) (c2 : Nat) (L2 : List Nat) (A3 : Option Addr) (c3 : Nat) (L3 : List Nat) (base : Nat) (k : Int) (w : World) (hk0 : 1 ≤ k) (hk1 : vnextFrame k x ≤ 4611686018427387904) (l1 : x.beliefs.reasons.length ≤ 9223372036854775807) (l2 : x.assumed.length ≤ 9223372036854775807) (l3 : x.bad.length ≤ 9223372036854775807) (g1 : Got (sliceC cReason) base [.slice A1 x.beliefs.reasons.length c1] (x.beliefs.reasons) L1 w) (g2 : Got (sliceC intC) base [.slice A2 x.assumed.length c2] (x.assumed) L2 w) (g3 : Got (sliceC intC) base [.slice A3 x.bad.length c3] (x.bad) L3 w) (p1_2 : ∀ y ∈ L1, y ∉ L2) (p1_3 : ∀ y ∈ L1, y ∉ L3) (p2_3 : ∀ y ∈ L2, y ∉ L3) :
    Calls Try.prog 31 #[.agg #[.int .i64 x.beliefs.nodes, .slice A1 x.beliefs.reasons.length c1, .slice A2 x.assumed.length c2, .slice A3 x.bad.length c3], .int .i64 k] w fun e w' => e = .returned (.int .i64 (vnextFrame k x)) ∧ Got (sliceC cReason) base [.slice A1 x.beliefs.reasons.length c1] (mkReasonS (k) x.beliefs.reasons) L1 w' ∧ Got (sliceC intC) base [.slice A2 x.assumed.length c2] (mkIntS (vnextBeliefs (k) x.beliefs) x.assumed) L2 w' ∧ Got (sliceC intC) base [.slice A3 x.bad.length c3] (mkIntS (nextIntS (vnextBeliefs (k) x.beliefs) x.assumed) x.bad) L3 w' ∧ Only (L1 ++ (L2 ++ L3)) w w' := by
  have bn1 : Hid (w.heap.size ∉ L1) := fun m => Nat.lt_irrefl _ (g1.lt _ m)
  have bn2 : Hid (w.heap.size ∉ L2) := fun m => Nat.lt_irrefl _ (g2.lt _ m)
  have bn3 : Hid (w.heap.size ∉ L3) := fun m => Nat.lt_irrefl _ (g3.lt _ m)
  have G1 := Lib.hid (g1.alloc (.cells #[.int .i64 x.beliefs.nodes, .slice A1 x.beliefs.reasons.length c1, .slice A2 x.assumed.length c2, .slice A3 x.bad.length c3] 52))
  have G2 := Lib.hid (g2.alloc (.cells #[.int .i64 x.beliefs.nodes, .slice A1 x.beliefs.reasons.length c1, .slice A2 x.assumed.length c2, .slice A3 x.bad.length c3] 52))
  have G3 := Lib.hid (g3.alloc (.cells #[.int .i64 x.beliefs.nodes, .slice A1 x.beliefs.reasons.length c1, .slice A2 x.assumed.length c2, .slice A3 x.bad.length c3] 52))
  have ap1_2 := Lib.hid p1_2
  have ap2_1 : Hid (∀ y ∈ L2, y ∉ L1) := fun y m m' => p1_2 y m' m
  have ap1_3 := Lib.hid p1_3
  have ap3_1 : Hid (∀ y ∈ L3, y ∉ L1) := fun y m m' => p1_3 y m' m
  have ap2_3 := Lib.hid p2_3
  have ap3_2 : Hid (∀ y ∈ L3, y ∉ L2) := fun y m m' => p2_3 y m' m
  have K0 : Hid (Blk (w.alloc (.cells #[.int .i64 x.beliefs.nodes, .slice A1 x.beliefs.reasons.length c1, .slice A2 x.assumed.length c2, .slice A3 x.bad.length c3] 52)) w.heap.size 52 #[.int .i64 x.beliefs.nodes, .slice A1 x.beliefs.reasons.length c1, .slice A2 x.assumed.length c2, .slice A3 x.bad.length c3]) := Blk.new _ _ _
  have O0 : Hid (Only (L1 ++ (L2 ++ L3)) w (w.alloc (.cells #[.int .i64 x.beliefs.nodes, .slice A1 x.beliefs.reasons.length c1, .slice A2 x.assumed.length c2, .slice A3 x.bad.length c3] 52))) := Only.of_below ((Below.refl _ _).alloc (Nat.le_refl _) _) _
  clear g1 g2 g3 p1_2 p1_3 p2_3
  unfold vnextFrame at hk1
  have := vnextBeliefs_ge (k) x.beliefs
  have := nextIntS_ge (vnextBeliefs (k) x.beliefs) x.assumed
  have := nextIntS_ge (nextIntS (vnextBeliefs (k) x.beliefs) x.assumed) x.bad
  go_enter Try.func31, Try.ntmps31
  go_wp2_with fail
  refine (markBeliefs_sl x.beliefs A1 c1 L1 base _ _ (by omega) (by omega) l1 G1.out ).mono ?_
  rintro e w1 ⟨rfl, h1, on1⟩
  have G1 := Lib.hid h1
  have G2 := Lib.hid (G2.out.only on1 ap2_1.out)
  have G3 := Lib.hid (G3.out.only on1 ap3_1.out)
  have K1 := Lib.hid (blk_only K0.out on1 bn1.out)
  have f0 := K1.out.at (i := 0) rfl
  have f1 := K1.out.at (i := 1) rfl
  have f2 := K1.out.at (i := 2) rfl
  have f3 := K1.out.at (i := 3) rfl
  have O1 : Hid (Only (L1 ++ (L2 ++ L3)) w w1) := O0.out.trans (on1.mono (fun y m => by first | exact m | simp [m] | (simp only [List.mem_append] at m ⊢; rcases m with m | m <;> simp [m])))
  clear on1 h1
  go_wp2_with fail
  refine (markIntS_any A2 _ c2 x.assumed L2 base _ _ rfl (by omega) (by omega) G2.out).mono ?_
  rintro e w2 ⟨rfl, h2, on2⟩
  have G1 := Lib.hid (G1.out.only on2 ap1_2.out)
  have G2 := Lib.hid h2
  have G3 := Lib.hid (G3.out.only on2 ap3_2.out)
  have K2 := Lib.hid (blk_only K1.out on2 bn2.out)
  clear f0 f1 f2 f3
  have f0 := K2.out.at (i := 0) rfl
  have f1 := K2.out.at (i := 1) rfl
  have f2 := K2.out.at (i := 2) rfl
  have f3 := K2.out.at (i := 3) rfl
  have O2 : Hid (Only (L1 ++ (L2 ++ L3)) w w2) := O1.out.trans (on2.mono (fun y m => by first | exact m | simp [m] | (simp only [List.mem_append] at m ⊢; rcases m with m | m <;> simp [m])))
  clear on2 h2
  go_wp2_with fail
  refine (markIntS_any A3 _ c3 x.bad L3 base _ _ rfl (by omega) (by omega) G3.out).mono ?_
  rintro e w3 ⟨rfl, h3, on3⟩
  have G1 := Lib.hid (G1.out.only on3 ap1_3.out)
  have G2 := Lib.hid (G2.out.only on3 ap2_3.out)
  have G3 := Lib.hid h3
  have K3 := Lib.hid (blk_only K2.out on3 bn3.out)
  clear f0 f1 f2 f3
  have f0 := K3.out.at (i := 0) rfl
  have f1 := K3.out.at (i := 1) rfl
  have f2 := K3.out.at (i := 2) rfl
  have f3 := K3.out.at (i := 3) rfl
  have O3 : Hid (Only (L1 ++ (L2 ++ L3)) w w3) := O2.out.trans (on3.mono (fun y m => by first | exact m | simp [m] | (simp only [List.mem_append] at m ⊢; rcases m with m | m <;> simp [m])))
  clear on3 h3
  go_wp2_with fail
  go_ret
  exact ⟨ret_i rfl, G1.out, G2.out, G3.out, O3.out⟩
theorem markFrame_any (cs : List Value) (x : FrameD) (L : List Nat) (base : Nat) (k : Int) (w : World) (hk0 : 1 ≤ k) (hk1 : vnextFrame k x ≤ 4611686018427387904) (h : Got cFrame base cs x L w) :
    Calls Try.prog 31 #[.agg cs.toArray, .int .i64 k] w fun e w' => e = .returned (.int .i64 (vnextFrame k x)) ∧ Got cFrame base cs (mkvFrame k x) L w' ∧ Only L w w' := by
  obtain ⟨hrep, ho⟩ := h
  obtain ⟨A1, c1, L1, A2, c2, L2, A3, c3, L3, rfl, hLL, n1, m1, s1, n2, m2, s2, n3, m3, s3⟩ := hrep
  subst L
  refine (markFrame_sl x A1 c1 L1 A2 c2 L2 A3 c3 L3 base k w hk0 hk1 (by unfold maxLen at m1; omega) (by unfold maxLen at m2; omega) (by unfold maxLen at m3; omega) ⟨⟨A1, c1, rfl, n1, m1, s1⟩, ho.left⟩ ⟨⟨A2, c2, rfl, n2, m2, s2⟩, ho.right.left⟩ ⟨⟨A3, c3, rfl, n3, m3, s3⟩, ho.right.right⟩ (fun y m m' => ho.apart y m (by simp [m'])) (fun y m m' => ho.apart y m (by simp [m'])) (fun y m m' => ho.right.apart y m (by simp [m']))).mono ?_
  rintro e w' ⟨rfl, g1, g2, g3, on⟩
  obtain ⟨nn1, mm1, ss1⟩ := sliceC_out g1.rep
  obtain ⟨nn2, mm2, ss2⟩ := sliceC_out g2.rep
  obtain ⟨nn3, mm3, ss3⟩ := sliceC_out g3.rep
  refine ⟨rfl, ⟨⟨A1, c1, L1, A2, c2, L2, A3, c3, L3, by simp [mkvFrame, mkvBeliefs, mkReasonS_len, mkIntS_len], rfl, nn1, mm1, ss1, nn2, mm2, ss2, nn3, mm3, ss3⟩, ho.nodup, ho.ge, fun y m => ?_⟩, on⟩
  try simp only [List.mem_append] at m
  rcases m with m | m | m
  · exact g1.own.plain y m
  · exact g2.own.plain y m
  · exact g3.own.plain y m

end Go.Proofs.Ytccbhhglghboaaa

namespace Go.Proofs.Ytccbhhglghboaaa
open Go.RowKit

set_option maxHeartbeats 1600000 in
theorem heldIntS_any (A : Option Addr) (n c : Nat) (ds : List Int) (L : List Nat) (k : Int) (w : World) (hn : n = ds.length) (hk0 : 1 ≤ k) (hk1 : nextIntS k ds ≤ 4611686018427387904) (h : Sli intC w A (mkIntS k ds) L) :
    Calls Try.prog 33 #[.slice A n c, .int .i64 k] w fun e w' => e = .returned (.int .i64 (nextIntS k ds)) ∧ Below w.heap.size w w' := by
  have H := Lib.hid h
  have HN := Lib.hid hn
  have hk1' : k + n ≤ 4611686018427387904 := by simp only [nextIntS] at hk1; omega
  clear h hn hk1
  go_enter Try.func33, Try.ntmps33
  go_wp2
  go_loopw [1, 5] (fun q j wr => ∃ (i : Nat) (kk : Int), i ≤ n ∧ j = .int .i64 i ∧ q = .int .i64 kk ∧ 1 ≤ kk ∧ kk + (n - i : Nat) ≤ 4611686018427387904 ∧ Hid (kk = k + i ∧ (mkIntS k ds).drop i = mkIntS kk (ds.drop i)) ∧ Hid (Below w.heap.size w wr)) (fun _ j _ => n - (intOf j).toNat)
  case atStart => exact ⟨0, k, Nat.zero_le _, rfl, rfl, hk0, by omega, ⟨by omega, rfl⟩, Below.refl _ _⟩
  case round =>
    obtain ⟨i, kk, hi, rfl, rfl, h1, h2, HD, HB⟩ := hrel
    by_cases hlt : i < n
    · have hil : i < ds.length := by have := HN.out; omega
      obtain ⟨hkk, hdr⟩ := HD.out
      have hml : i < (mkIntS k ds).length := by rw [mkIntS_len]; exact hil
      obtain ⟨b, off, cs, Lk, rfl, hbL, _, hrep, hc⟩ := H.out.at_ hml
      have hdr2 := hdr
      rw [List.drop_eq_getElem_cons hml, List.drop_eq_getElem_cons hil, mkIntS] at hdr2
      injection hdr2 with e1 e2
      rw [e1] at hrep
      obtain ⟨rfl, _⟩ := hrep
      have hbl : b < w.heap.size := H.out.lt b hbL
      have hbr : b < wr.heap.size := Nat.lt_of_lt_of_le hbl HB.out.size
      have q0 := (HB.out.cell (p := ⟨b, off + (i * intC.size + 0), none⟩) hbl).trans (hc 0 _ rfl)
      simp only [show intC.size = 1 from rfl, Nat.mul_one, Nat.add_zero] at q0
      have HDn : Hid (kk + 1 = k + (i + 1 : Nat) ∧ (mkIntS k ds).drop (i + 1) = mkIntS (kk + 1) (ds.drop (i + 1))) := ⟨by omega, e2⟩
      clear hc hkk hdr e1 e2
      have i0 : (0 : Int) ≤ i := by omega
      have i1 : (i : Int) < n := by omega
      have hne : ((kk : Int) != kk) = false := by simp
      go_wp2_with fail
      have HBn := HB
      go_roundw
      case rel => exact ⟨i + 1, kk + 1, by omega, by go_num, rfl, by omega, by omega, HDn, HBn⟩
      case measure => simp [intOf]; omega
    · obtain rfl : i = n := by omega
      have hf : Hid (nextIntS k ds = kk) := by
        obtain ⟨h1, _⟩ := HD.out
        have := HN.out; rw [Hid]; simp only [nextIntS]; omega
      go_wp2
      go_ret
      exact ⟨ret_i hf.out.symm, HB.out⟩

end Go.Proofs.Ytccbhhglghboaaa

namespace Go.Proofs.Ytccbhhglghboaaa
open Go.RowKit Go.Deep

def Opens {α : Type} (P : Program) (t : TypeId) (c : Codec α) (wf : α → Prop) : Prop :=
  ∀ {H : Type} {enc : TypeId × Value → H} {w : World} {base : Nat} {spare : Nat → Bool} {held : Bool} {fuel : Nat} {cs : List Value} {x : DataW H × List MemPlace},
    DataW.trod enc P w base spare held fuel t cs = some x → ∃ d L, c.rep w cs d L ∧ wf d

def wfInt (n : Int) : Prop := -9223372036854775808 ≤ n ∧ n ≤ 9223372036854775807
theorem opens_int {P : Program} {t : TypeId} (ht : P.underlying t = some (.int .i64)) : Opens P t intC wfInt := by
  intro H enc w base spare held fuel cs x h
  obtain ⟨n, rfl, _, hw⟩ := DataW.trod_int ht h
  refine ⟨n, [], ⟨rfl, rfl⟩, ?_⟩
  simp [Lit.wf, IntKind.min, IntKind.max, IntKind.signed, IntKind.bits] at hw
  exact ⟨by omega, by omega⟩
theorem opens_slice {α : Type} {c : Codec α} {wf : α → Prop} {P : Program} {t e : TypeId} (ht : P.underlying t = some (.slice e)) (hc : P.cellsOf e = c.size) (ho : Opens P e c wf) : Opens P t (sliceC c) (fun ds => ∀ d ∈ ds, wf d) := by
  intro H enc w base spare held fuel cs x h
  rcases open_slice ht h with ⟨rfl, _⟩ | ⟨a, len, cap, m, n, D, Pl, rfl, hb, hl, hm, hmm, _, hx⟩
  · exact ⟨[], [], ⟨none, 0, rfl, Nat.le_refl _, Nat.zero_le _, Sli.nil _ _⟩, by simp⟩
  · have hlm : len ≤ m := by rw [hmm]; split <;> omega
    have key : ∀ q, q ≤ len → ∃ (xs : List Value) (ds : List α) (L : List Nat), ds.length = q ∧ (∀ j u, xs[j]? = some u → w.cell? (a.add j) = some u) ∧ c.reps w xs ds L ∧ ∀ d ∈ ds, wf d := by
      intro q
      induction q with
      | zero => exact fun _ => ⟨[], [], [], rfl, by simp, ⟨rfl, rfl⟩, by simp⟩
      | succ q ih =>
        intro hq
        obtain ⟨xs, ds, L, hd, hcell, hr, hwf⟩ := ih (by omega)
        obtain ⟨cs', h1, h2⟩ := hx q (by omega)
        obtain ⟨d, Lq, hrep, hwd⟩ := ho h2
        obtain ⟨_, hlen, hat⟩ := World.cells?_some h1
        refine ⟨xs ++ cs', ds ++ [d], L ++ Lq, by simp [hd], fun j u hu => ?_, reps_append hr (reps_one_of hrep), ?_⟩
        · have hxl : xs.length = q * c.size := by rw [reps_len hr, hd]
          rw [List.getElem?_append] at hu
          split at hu
          · exact hcell j u hu
          · rename_i hj
            have hj2 := (List.getElem?_eq_some_iff.1 hu).1
            have := hat (j - xs.length) (by omega)
            rw [← hu, ← this, Go.Deep.add_add, hc, ← hxl]
            congr 2
            omega
        · intro y hy
          rcases List.mem_append.1 hy with hy | hy
          · exact hwf y hy
          · simp at hy; subst hy; exact hwd
    obtain ⟨xs, ds, L, hd, hcell, hr, hwf⟩ := key len (Nat.le_refl _)
    have hxl := reps_len hr
    rcases Nat.eq_zero_or_pos len with h0 | h0
    · have : ds = [] := List.eq_nil_of_length_eq_zero (by omega)
      subst this
      refine ⟨[], [], ⟨some a, cap, by simp at hd; rw [← hd]; rfl, by simp, hm, Sli.nil _ _⟩, by simp⟩
    · obtain ⟨b, off, sp⟩ := a
      have hp : 0 < xs.length := by rw [hxl, hd]; exact Nat.mul_pos h0 c.pos
      have hsp : sp = none := by
        have h1 := hcell 0 _ (List.getElem?_eq_getElem hp)
        have e : (⟨b, off, sp⟩ : Addr).add 0 = ⟨b, off, sp⟩ := by simp [Addr.add]
        rw [e] at h1
        cases sp with
        | none => rfl
        | some q =>
          simp only [World.cell?] at h1
          split at h1 <;> simp at h1
      subst hsp
      refine ⟨ds, [b] ++ L, ⟨some ⟨b, off, none⟩, cap, by rw [hd], by omega, hm, xs, [b], L, rfl, ⟨by rw [hxl], .inr ⟨by omega, b, off, rfl, rfl, fun j u hu => ?_⟩⟩, hr⟩, hwf⟩
      have := hcell j u hu
      rwa [add_lit0] at this

end Go.Proofs.Ytccbhhglghboaaa

namespace Go.Proofs.Ytccbhhglghboaaa
open Go.RowKit

theorem below_of_drew0 {w w1 : World} {B : Nat} (h : Below w.drew.heap.size w.drew w1) (hB : B ≤ w.heap.size) : Below B w w1 := ⟨h.os, h.tape, h.output, h.size, fun k hk => h.block k (Nat.lt_of_lt_of_le hk hB)⟩

theorem sLabelFor_std {aF : FrameD} {aX : Int} {r : List Int} (hh : s_LabelFor aF aX = some r) (w : World) (qaF : List Value) (LaF : List Nat) (haF : cFrame.rep w qaF aF LaF) :
    Calls Try.prog 39 #[.agg qaF.toArray, .int .i64 aX] w (GivesS intC 3 w r) :=
  Sound.givesS (c := intC) (g := eInt) (ds := r) (s_LabelFor_ok hh) encInt trivial (vs := [_, _]) ⟨arg_agg encFrame haF, arg_int _ _, trivial⟩

theorem iLabelFor_std {aF : FrameD} {aX : Int} {r : List Int} (hh : i_LabelFor aF aX = some r) (w : World) (qaF : List Value) (LaF : List Nat) (haF : cFrame.rep w qaF aF LaF) :
    Calls Try.prog 40 #[.agg qaF.toArray, .int .i64 aX] w (GivesS intC 3 w r) :=
  Sound.givesS (c := intC) (g := eInt) (ds := r) (i_LabelFor_ok hh) encInt trivial (vs := [_, _]) ⟨arg_agg encFrame haF, arg_int _ _, trivial⟩

set_option maxRecDepth 100000 in
set_option maxHeartbeats 8000000 in
theorem FnExactLabelFor_walk (w : World) (cs_aF : List Value) (aF : FrameD) (L_aF : List Nat) (h_aF : cFrame.rep w cs_aF aF L_aF) (aX : Int) (wf_aX : wfInt aX) :
    Calls Try.prog 7 #[.agg cs_aF.toArray, .int .i64 aX] w fun e w' => e = .returned (.bool true) ∧ Below w.heap.size w w' := by
  have H_aF := Lib.hid h_aF
  clear h_aF
  obtain ⟨aF_A1, aF_c1, aF_A2, aF_c2, aF_A3, aF_c3, rfl⟩ := cFrame_cells H_aF.out
  have B0 : Hid (Below w.heap.size w (w.alloc (.cells #[.int .i64 aF.beliefs.nodes, .slice aF_A1 aF.beliefs.reasons.length aF_c1, .slice aF_A2 aF.assumed.length aF_c2, .slice aF_A3 aF.bad.length aF_c3] 45))) := (Below.alloc (Below.refl _ _) (Nat.le_refl _) _)
  have sz0 : w.heap.size + 1 ≤ ((w.alloc (.cells #[.int .i64 aF.beliefs.nodes, .slice aF_A1 aF.beliefs.reasons.length aF_c1, .slice aF_A2 aF.assumed.length aF_c2, .slice aF_A3 aF.bad.length aF_c3] 45))).heap.size := Nat.le_of_eq (by simp only [World.alloc, Array.size_push])
  have K_aF : Hid (Blk (w.alloc (.cells #[.int .i64 aF.beliefs.nodes, .slice aF_A1 aF.beliefs.reasons.length aF_c1, .slice aF_A2 aF.assumed.length aF_c2, .slice aF_A3 aF.bad.length aF_c3] 45)) (w.heap.size) 45 #[.int .i64 aF.beliefs.nodes, .slice aF_A1 aF.beliefs.reasons.length aF_c1, .slice aF_A2 aF.assumed.length aF_c2, .slice aF_A3 aF.bad.length aF_c3]) := (Blk.new _ _ _)
  go_enter Try.func7, Try.ntmps7
  go_wp2_with fail
  refine (szFrame_any [.int .i64 aF.beliefs.nodes, .slice aF_A1 aF.beliefs.reasons.length aF_c1, .slice aF_A2 aF.assumed.length aF_c2, .slice aF_A3 aF.bad.length aF_c3] aF L_aF _ _ (by omega) (by omega) (cFrame.keep H_aF.out (keep_below B0.out (cFrame.lt H_aF.out)))).mono ?_
  rintro e w1 ⟨rfl, hb⟩
  have B1 := Lib.hid (B0.out.trans (hb.mono B0.out.size))
  have sz1 := hb.size
  have K_aF := Lib.hid (K_aF.out.later hb)
  have f_aF_0 := K_aF.out.at (i := 0) rfl
  have f_aF_1 := K_aF.out.at (i := 1) rfl
  have f_aF_2 := K_aF.out.at (i := 2) rfl
  have f_aF_3 := K_aF.out.at (i := 3) rfl
  clear hb
  by_cases cc_aF : ((costFrame aF : Nat) : Int) ≤ 1048576
  rotate_left
  · rw [szR_neg cc_aF]
    go_wp2
    go_ret
    exact ⟨rfl, B1.out⟩
  rw [szR_pos cc_aF]
  have cz_aF : costFrame aF ≤ 1048576 := by omega
  have nn_aF : ¬ (1048576 - ((costFrame aF : Nat) : Int) < 0) := by omega
  obtain ⟨R0, hs0, hi0, rl⟩ := LabelFor_plain aF cz_aF aX wf_aX
  go_wp2_with fail
  refine (toFrame_any [.int .i64 aF.beliefs.nodes, .slice aF_A1 aF.beliefs.reasons.length aF_c1, .slice aF_A2 aF.assumed.length aF_c2, .slice aF_A3 aF.bad.length aF_c3] aF L_aF _ cz_aF (cFrame.keep H_aF.out (keep_below B1.out (cFrame.lt H_aF.out)))).mono ?_
  rintro e w2 ⟨cs, L_t1aF, rfl, gt, hb⟩
  obtain ⟨t1aF_A1, t1aF_c1, t1aF_A2, t1aF_c2, t1aF_A3, t1aF_c3, rfl⟩ := cFrame_cells gt.rep
  have B2 := Lib.hid (B1.out.trans (hb.mono B1.out.size))
  have sz2 := hb.size
  have K_aF := Lib.hid (K_aF.out.later hb)
  clear f_aF_0 f_aF_1 f_aF_2 f_aF_3
  have f_aF_0 := K_aF.out.at (i := 0) rfl
  have f_aF_1 := K_aF.out.at (i := 1) rfl
  have f_aF_2 := K_aF.out.at (i := 2) rfl
  have f_aF_3 := K_aF.out.at (i := 3) rfl
  clear B1
  have V_t1aF := Lib.hid gt
  have ge_t1aF := Lib.hid gt.own.ge
  have lt_t1aF := Lib.hid gt.lt
  clear gt hb
  go_wp2_with fail
  refine (sLabelFor_std hs0 _ [.int .i64 aF.beliefs.nodes, .slice t1aF_A1 aF.beliefs.reasons.length t1aF_c1, .slice t1aF_A2 aF.assumed.length t1aF_c2, .slice t1aF_A3 aF.bad.length t1aF_c3] L_t1aF V_t1aF.out.rep).mono ?_
  rintro e w3 ⟨v, rfl, acc⟩
  obtain ⟨A_w0, c_w0, rfl⟩ := acc.shape
  have hb := acc.below
  obtain ⟨L_w0, gt⟩ := acc.got
  have B3 := Lib.hid (B2.out.trans (hb.mono B2.out.size))
  have sz3 := hb.size
  have V_t1aF := Lib.hid (V_t1aF.out.later hb)
  have K_aF := Lib.hid (K_aF.out.later hb)
  clear f_aF_0 f_aF_1 f_aF_2 f_aF_3
  have f_aF_0 := K_aF.out.at (i := 0) rfl
  have f_aF_1 := K_aF.out.at (i := 1) rfl
  have f_aF_2 := K_aF.out.at (i := 2) rfl
  have f_aF_3 := K_aF.out.at (i := 3) rfl
  clear B2
  have V_w0 := Lib.hid gt
  have ge_w0 := Lib.hid gt.own.ge
  have lt_w0 := Lib.hid gt.lt
  clear gt hb acc
  clear V_t1aF
  go_wp2_with fail
  refine (toFrame_any [.int .i64 aF.beliefs.nodes, .slice aF_A1 aF.beliefs.reasons.length aF_c1, .slice aF_A2 aF.assumed.length aF_c2, .slice aF_A3 aF.bad.length aF_c3] aF L_aF _ cz_aF (cFrame.keep H_aF.out (keep_below B3.out (cFrame.lt H_aF.out)))).mono ?_
  rintro e w4 ⟨cs, L_x0, rfl, gt, hb⟩
  obtain ⟨x0_A1, x0_c1, x0_A2, x0_c2, x0_A3, x0_c3, rfl⟩ := cFrame_cells gt.rep
  have B4 := Lib.hid (B3.out.trans (hb.mono B3.out.size))
  have sz4 := hb.size
  have V_w0 := Lib.hid (V_w0.out.later hb)
  have K_aF := Lib.hid (K_aF.out.later hb)
  clear f_aF_0 f_aF_1 f_aF_2 f_aF_3
  have f_aF_0 := K_aF.out.at (i := 0) rfl
  have f_aF_1 := K_aF.out.at (i := 1) rfl
  have f_aF_2 := K_aF.out.at (i := 2) rfl
  have f_aF_3 := K_aF.out.at (i := 3) rfl
  clear B3
  have V_x0 := Lib.hid gt
  have ge_x0 := Lib.hid gt.own.ge
  have lt_x0 := Lib.hid gt.lt
  clear gt hb
  have hb := (Below.refl w4.heap.size w4).alloc (Nat.le_refl _) (.cells #[.int .i64 aF.beliefs.nodes, .slice x0_A1 aF.beliefs.reasons.length x0_c1, .slice x0_A2 aF.assumed.length x0_c2, .slice x0_A3 aF.bad.length x0_c3] 52)
  have B5 := Lib.hid (B4.out.trans (hb.mono B4.out.size))
  have sz5 := hb.size
  have V_w0 := Lib.hid (V_w0.out.later hb)
  have V_x0 := Lib.hid (V_x0.out.later hb)
  have K_aF := Lib.hid (K_aF.out.later hb)
  clear f_aF_0 f_aF_1 f_aF_2 f_aF_3
  have f_aF_0 := K_aF.out.at (i := 0) rfl
  have f_aF_1 := K_aF.out.at (i := 1) rfl
  have f_aF_2 := K_aF.out.at (i := 2) rfl
  have f_aF_3 := K_aF.out.at (i := 3) rfl
  clear B4
  have szb_x0 : w4.heap.size + 1 ≤ (w4.alloc (.cells #[.int .i64 aF.beliefs.nodes, .slice x0_A1 aF.beliefs.reasons.length x0_c1, .slice x0_A2 aF.assumed.length x0_c2, .slice x0_A3 aF.bad.length x0_c3] 52)).heap.size := Nat.le_of_eq (by simp only [World.alloc, Array.size_push])
  have K_x0 : Hid (Blk (w4.alloc (.cells #[.int .i64 aF.beliefs.nodes, .slice x0_A1 aF.beliefs.reasons.length x0_c1, .slice x0_A2 aF.assumed.length x0_c2, .slice x0_A3 aF.bad.length x0_c3] 52)) w4.heap.size 52 #[.int .i64 aF.beliefs.nodes, .slice x0_A1 aF.beliefs.reasons.length x0_c1, .slice x0_A2 aF.assumed.length x0_c2, .slice x0_A3 aF.bad.length x0_c3]) := Blk.new _ _ _
  have f_x0_0 := K_x0.out.at (i := 0) rfl
  have f_x0_1 := K_x0.out.at (i := 1) rfl
  have f_x0_2 := K_x0.out.at (i := 2) rfl
  have f_x0_3 := K_x0.out.at (i := 3) rfl
  clear hb
  go_wp2_with fail
  refine (iLabelFor_std hi0 _ [.int .i64 aF.beliefs.nodes, .slice x0_A1 aF.beliefs.reasons.length x0_c1, .slice x0_A2 aF.assumed.length x0_c2, .slice x0_A3 aF.bad.length x0_c3] L_x0 V_x0.out.rep).mono ?_
  rintro e w6 ⟨v, rfl, acc⟩
  obtain ⟨A_g0, c_g0, rfl⟩ := acc.shape
  have hb := acc.below
  obtain ⟨L_g0, gt⟩ := acc.got
  have B6 := Lib.hid (B5.out.trans (hb.mono B5.out.size))
  have sz6 := hb.size
  have V_w0 := Lib.hid (V_w0.out.later hb)
  have V_x0 := Lib.hid (V_x0.out.later hb)
  have K_aF := Lib.hid (K_aF.out.later hb)
  clear f_aF_0 f_aF_1 f_aF_2 f_aF_3
  have f_aF_0 := K_aF.out.at (i := 0) rfl
  have f_aF_1 := K_aF.out.at (i := 1) rfl
  have f_aF_2 := K_aF.out.at (i := 2) rfl
  have f_aF_3 := K_aF.out.at (i := 3) rfl
  have K_x0 := Lib.hid (K_x0.out.later hb)
  clear f_x0_0 f_x0_1 f_x0_2 f_x0_3
  have f_x0_0 := K_x0.out.at (i := 0) rfl
  have f_x0_1 := K_x0.out.at (i := 1) rfl
  have f_x0_2 := K_x0.out.at (i := 2) rfl
  have f_x0_3 := K_x0.out.at (i := 3) rfl
  clear B5
  have V_g0 := Lib.hid gt
  have ge_g0 := Lib.hid gt.own.ge
  have lt_g0 := Lib.hid gt.lt
  clear gt hb acc
  go_wp2_with fail
  refine (eqIntS_any A_g0 A_w0 _ c_g0 c_w0 _ L_g0 L_w0 _ rfl (by omega) (sliceC_out V_g0.out.rep).2.2 (sliceC_out V_w0.out.rep).2.2).mono ?_
  rintro e w7 ⟨rfl, hb⟩
  have B7 := Lib.hid (B6.out.trans (hb.mono B6.out.size))
  have sz7 := hb.size
  have V_w0 := Lib.hid (V_w0.out.later hb)
  have V_x0 := Lib.hid (V_x0.out.later hb)
  have V_g0 := Lib.hid (V_g0.out.later hb)
  have K_aF := Lib.hid (K_aF.out.later hb)
  clear f_aF_0 f_aF_1 f_aF_2 f_aF_3
  have f_aF_0 := K_aF.out.at (i := 0) rfl
  have f_aF_1 := K_aF.out.at (i := 1) rfl
  have f_aF_2 := K_aF.out.at (i := 2) rfl
  have f_aF_3 := K_aF.out.at (i := 3) rfl
  have K_x0 := Lib.hid (K_x0.out.later hb)
  clear f_x0_0 f_x0_1 f_x0_2 f_x0_3
  have f_x0_0 := K_x0.out.at (i := 0) rfl
  have f_x0_1 := K_x0.out.at (i := 1) rfl
  have f_x0_2 := K_x0.out.at (i := 2) rfl
  have f_x0_3 := K_x0.out.at (i := 3) rfl
  clear B6
  clear hb
  go_wp2_with fail
  go_region_held3 (fun W => W.cell? ⟨w4.heap.size, 0, none⟩ = some (.int .i64 aF.beliefs.nodes) ∧ W.cell? ⟨w4.heap.size, 1, none⟩ = some (.slice x0_A1 aF.beliefs.reasons.length x0_c1) ∧ W.cell? ⟨w4.heap.size, 2, none⟩ = some (.slice x0_A2 aF.assumed.length x0_c2) ∧ W.cell? ⟨w4.heap.size, 3, none⟩ = some (.slice x0_A3 aF.bad.length x0_c3) ∧ W.cell? ⟨w.heap.size, 0, none⟩ = some (.int .i64 aF.beliefs.nodes) ∧ W.cell? ⟨w.heap.size, 1, none⟩ = some (.slice aF_A1 aF.beliefs.reasons.length aF_c1) ∧ W.cell? ⟨w.heap.size, 2, none⟩ = some (.slice aF_A2 aF.assumed.length aF_c2) ∧ W.cell? ⟨w.heap.size, 3, none⟩ = some (.slice aF_A3 aF.bad.length aF_c3)) (first | exact ⟨f_x0_0, f_x0_1, f_x0_2, f_x0_3, f_aF_0, f_aF_1, f_aF_2, f_aF_3⟩ | exact ⟨r_x0_0, r_x0_1, r_x0_2, r_x0_3, r_aF_0, r_aF_1, r_aF_2, r_aF_3⟩) (first | (go_at_call 27; refine (toFrame_any [.int .i64 aF.beliefs.nodes, .slice aF_A1 aF.beliefs.reasons.length aF_c1, .slice aF_A2 aF.assumed.length aF_c2, .slice aF_A3 aF.bad.length aF_c3] aF L_aF _ cz_aF (cFrame.keep H_aF.out (keep_below B7.out.drew (cFrame.lt H_aF.out)))).mono ?_; rintro e w8 ⟨cs, L_t7aF, rfl, gt, hb⟩; obtain ⟨t7aF_A1, t7aF_c1, t7aF_A2, t7aF_c2, t7aF_A3, t7aF_c3, rfl⟩ := cFrame_cells gt.rep; replace hb := below_of_drew0 hb (Nat.le_refl _); have KA := K_aF.out.later hb; have KX := K_x0.out.later hb; have r_x0_0 := KX.at (i := 0) rfl; have r_x0_1 := KX.at (i := 1) rfl; have r_x0_2 := KX.at (i := 2) rfl; have r_x0_3 := KX.at (i := 3) rfl; have r_aF_0 := KA.at (i := 0) rfl; have r_aF_1 := KA.at (i := 1) rfl; have r_aF_2 := KA.at (i := 2) rfl; have r_aF_3 := KA.at (i := 3) rfl) | (go_at_call 30; refine (eqFrame_any [.int .i64 aF.beliefs.nodes, .slice x0_A1 aF.beliefs.reasons.length x0_c1, .slice x0_A2 aF.assumed.length x0_c2, .slice x0_A3 aF.bad.length x0_c3] [.int .i64 aF.beliefs.nodes, .slice t7aF_A1 aF.beliefs.reasons.length t7aF_c1, .slice t7aF_A2 aF.assumed.length t7aF_c2, .slice t7aF_A3 aF.bad.length t7aF_c3] aF L_x0 L_t7aF _ (V_x0.out.later hb).rep gt.rep).mono ?_; rintro e w9 ⟨rfl, hb2⟩; have KX2 := KX.later hb2; have KA2 := KA.later hb2; replace r_x0_0 := KX2.at (i := 0) rfl; replace r_x0_1 := KX2.at (i := 1) rfl; replace r_x0_2 := KX2.at (i := 2) rfl; replace r_x0_3 := KX2.at (i := 3) rfl; replace r_aF_0 := KA2.at (i := 0) rfl; replace r_aF_1 := KA2.at (i := 1) rfl; replace r_aF_2 := KA2.at (i := 2) rfl; replace r_aF_3 := KA2.at (i := 3) rfl))
  clear KA KX KA2 KX2 r_x0_0 r_x0_1 r_x0_2 r_x0_3 r_aF_0 r_aF_1 r_aF_2 r_aF_3
  have B8 := Lib.hid (B7.out.trans (hb.mono B7.out.size))
  have sz8 := hb.size
  have V_w0 := Lib.hid (V_w0.out.later hb)
  have V_x0 := Lib.hid (V_x0.out.later hb)
  have V_g0 := Lib.hid (V_g0.out.later hb)
  have K_aF := Lib.hid (K_aF.out.later hb)
  clear f_aF_0 f_aF_1 f_aF_2 f_aF_3
  have f_aF_0 := K_aF.out.at (i := 0) rfl
  have f_aF_1 := K_aF.out.at (i := 1) rfl
  have f_aF_2 := K_aF.out.at (i := 2) rfl
  have f_aF_3 := K_aF.out.at (i := 3) rfl
  have K_x0 := Lib.hid (K_x0.out.later hb)
  clear f_x0_0 f_x0_1 f_x0_2 f_x0_3
  have f_x0_0 := K_x0.out.at (i := 0) rfl
  have f_x0_1 := K_x0.out.at (i := 1) rfl
  have f_x0_2 := K_x0.out.at (i := 2) rfl
  have f_x0_3 := K_x0.out.at (i := 3) rfl
  clear B7
  clear hb gt
  have B9 := Lib.hid (B8.out.trans (hb2.mono B8.out.size))
  have sz9 := hb2.size
  have V_w0 := Lib.hid (V_w0.out.later hb2)
  have V_x0 := Lib.hid (V_x0.out.later hb2)
  have V_g0 := Lib.hid (V_g0.out.later hb2)
  have K_aF := Lib.hid (K_aF.out.later hb2)
  clear f_aF_0 f_aF_1 f_aF_2 f_aF_3
  have f_aF_0 := K_aF.out.at (i := 0) rfl
  have f_aF_1 := K_aF.out.at (i := 1) rfl
  have f_aF_2 := K_aF.out.at (i := 2) rfl
  have f_aF_3 := K_aF.out.at (i := 3) rfl
  have K_x0 := Lib.hid (K_x0.out.later hb2)
  clear f_x0_0 f_x0_1 f_x0_2 f_x0_3
  have f_x0_0 := K_x0.out.at (i := 0) rfl
  have f_x0_1 := K_x0.out.at (i := 1) rfl
  have f_x0_2 := K_x0.out.at (i := 2) rfl
  have f_x0_3 := K_x0.out.at (i := 3) rfl
  clear B8
  clear hb2
  have nl_x0_9 := vnextFrame_le ((1 : Int)) aF
  have nb_x0_9 : vnextFrame ((1 : Int)) aF ≤ 4611686018427387904 := by omega
  have ng_x0_9 := vnextFrame_ge ((1 : Int)) aF
  go_wp2_with fail
  refine (markFrame_any _ aF L_x0 _ _ _ (by omega) (by omega) V_x0.out).mono ?_
  rintro e w10 ⟨rfl, gm, on⟩
  have B10 := Lib.hid (B9.out.trans (on.below B9.out.size (fun y m => by have := ge_x0.out y m; omega)))
  have sz10 := on.size
  have V_w0 := Lib.hid (V_w0.out.only on (fun y m m' => by have := lt_w0.out y m; have := ge_x0.out y m'; omega))
  have V_g0 := Lib.hid (V_g0.out.only on (fun y m m' => by have := ge_g0.out y m; have := lt_x0.out y m'; omega))
  have K_aF := Lib.hid (blk_only K_aF.out on (fun m => by have := ge_x0.out _ m; have := lt_x0.out _ m; omega))
  clear f_aF_0 f_aF_1 f_aF_2 f_aF_3
  have f_aF_0 := K_aF.out.at (i := 0) rfl
  have f_aF_1 := K_aF.out.at (i := 1) rfl
  have f_aF_2 := K_aF.out.at (i := 2) rfl
  have f_aF_3 := K_aF.out.at (i := 3) rfl
  have K_x0 := Lib.hid (blk_only K_x0.out on (fun m => by have := ge_x0.out _ m; have := lt_x0.out _ m; omega))
  clear f_x0_0 f_x0_1 f_x0_2 f_x0_3
  have f_x0_0 := K_x0.out.at (i := 0) rfl
  have f_x0_1 := K_x0.out.at (i := 1) rfl
  have f_x0_2 := K_x0.out.at (i := 2) rfl
  have f_x0_3 := K_x0.out.at (i := 3) rfl
  clear B9
  have V_x0 := Lib.hid gm
  clear gm on
  clear V_x0
  have kn : ¬ (vnextFrame ((1 : Int)) aF < 0) := by omega
  go_wp2_with fail
  refine (eqIntS_any A_g0 A_w0 _ c_g0 c_w0 _ L_g0 L_w0 _ rfl (by omega) (sliceC_out V_g0.out.rep).2.2 (sliceC_out V_w0.out.rep).2.2).mono ?_
  rintro e w11 ⟨rfl, hb⟩
  have B11 := Lib.hid (B10.out.trans (hb.mono B10.out.size))
  have sz11 := hb.size
  have V_w0 := Lib.hid (V_w0.out.later hb)
  have V_g0 := Lib.hid (V_g0.out.later hb)
  have K_aF := Lib.hid (K_aF.out.later hb)
  clear f_aF_0 f_aF_1 f_aF_2 f_aF_3
  have f_aF_0 := K_aF.out.at (i := 0) rfl
  have f_aF_1 := K_aF.out.at (i := 1) rfl
  have f_aF_2 := K_aF.out.at (i := 2) rfl
  have f_aF_3 := K_aF.out.at (i := 3) rfl
  have K_x0 := Lib.hid (K_x0.out.later hb)
  clear f_x0_0 f_x0_1 f_x0_2 f_x0_3
  have f_x0_0 := K_x0.out.at (i := 0) rfl
  have f_x0_1 := K_x0.out.at (i := 1) rfl
  have f_x0_2 := K_x0.out.at (i := 2) rfl
  have f_x0_3 := K_x0.out.at (i := 3) rfl
  clear B10
  clear hb
  have nl_g0_11 : nextIntS ((1 : Int)) R0 = ((1 : Int)) + R0.length := rfl
  have nb_g0_11 : nextIntS ((1 : Int)) R0 ≤ 4611686018427387904 := by omega
  have ng_g0_11 := nextIntS_ge ((1 : Int)) R0
  go_wp2_with fail
  refine (markIntS_any A_g0 _ c_g0 R0 L_g0 _ _ _ rfl (by omega) (by omega) V_g0.out).mono ?_
  rintro e w12 ⟨rfl, gm, on⟩
  have B12 := Lib.hid (B11.out.trans (on.below B11.out.size (fun y m => by have := ge_g0.out y m; omega)))
  have sz12 := on.size
  have V_w0 := Lib.hid (V_w0.out.only on (fun y m m' => by have := lt_w0.out y m; have := ge_g0.out y m'; omega))
  have K_aF := Lib.hid (blk_only K_aF.out on (fun m => by have := ge_g0.out _ m; have := lt_g0.out _ m; omega))
  clear f_aF_0 f_aF_1 f_aF_2 f_aF_3
  have f_aF_0 := K_aF.out.at (i := 0) rfl
  have f_aF_1 := K_aF.out.at (i := 1) rfl
  have f_aF_2 := K_aF.out.at (i := 2) rfl
  have f_aF_3 := K_aF.out.at (i := 3) rfl
  have K_x0 := Lib.hid (blk_only K_x0.out on (fun m => by have := ge_g0.out _ m; have := lt_g0.out _ m; omega))
  clear f_x0_0 f_x0_1 f_x0_2 f_x0_3
  have f_x0_0 := K_x0.out.at (i := 0) rfl
  have f_x0_1 := K_x0.out.at (i := 1) rfl
  have f_x0_2 := K_x0.out.at (i := 2) rfl
  have f_x0_3 := K_x0.out.at (i := 3) rfl
  clear B11
  have V_g0 := Lib.hid gm
  clear gm on
  go_wp2_with fail
  refine (heldIntS_any A_g0 _ c_g0 R0 L_g0 _ _ rfl (by omega) (by omega) (sliceC_out V_g0.out.rep).2.2).mono ?_
  rintro e w13 ⟨rfl, hb⟩
  have B13 := Lib.hid (B12.out.trans (hb.mono B12.out.size))
  have sz13 := hb.size
  have V_w0 := Lib.hid (V_w0.out.later hb)
  have V_g0 := Lib.hid (V_g0.out.later hb)
  have K_aF := Lib.hid (K_aF.out.later hb)
  clear f_aF_0 f_aF_1 f_aF_2 f_aF_3
  have f_aF_0 := K_aF.out.at (i := 0) rfl
  have f_aF_1 := K_aF.out.at (i := 1) rfl
  have f_aF_2 := K_aF.out.at (i := 2) rfl
  have f_aF_3 := K_aF.out.at (i := 3) rfl
  have K_x0 := Lib.hid (K_x0.out.later hb)
  clear f_x0_0 f_x0_1 f_x0_2 f_x0_3
  have f_x0_0 := K_x0.out.at (i := 0) rfl
  have f_x0_1 := K_x0.out.at (i := 1) rfl
  have f_x0_2 := K_x0.out.at (i := 2) rfl
  have f_x0_3 := K_x0.out.at (i := 3) rfl
  clear B12
  clear hb
  have qn13 : ¬ (nextIntS ((1 : Int)) R0 < 0) := by omega
  have qm13 : ((nextIntS ((1 : Int)) R0) != (nextIntS ((1 : Int)) R0)) = false := by simp
  go_wp2_with fail
  refine (toFrame_any [.int .i64 aF.beliefs.nodes, .slice aF_A1 aF.beliefs.reasons.length aF_c1, .slice aF_A2 aF.assumed.length aF_c2, .slice aF_A3 aF.bad.length aF_c3] aF L_aF _ cz_aF (cFrame.keep H_aF.out (keep_below B13.out (cFrame.lt H_aF.out)))).mono ?_
  rintro e w14 ⟨cs, L_t13aF, rfl, gt, hb⟩
  obtain ⟨t13aF_A1, t13aF_c1, t13aF_A2, t13aF_c2, t13aF_A3, t13aF_c3, rfl⟩ := cFrame_cells gt.rep
  have B14 := Lib.hid (B13.out.trans (hb.mono B13.out.size))
  have sz14 := hb.size
  have V_w0 := Lib.hid (V_w0.out.later hb)
  have V_g0 := Lib.hid (V_g0.out.later hb)
  have K_aF := Lib.hid (K_aF.out.later hb)
  clear f_aF_0 f_aF_1 f_aF_2 f_aF_3
  have f_aF_0 := K_aF.out.at (i := 0) rfl
  have f_aF_1 := K_aF.out.at (i := 1) rfl
  have f_aF_2 := K_aF.out.at (i := 2) rfl
  have f_aF_3 := K_aF.out.at (i := 3) rfl
  have K_x0 := Lib.hid (K_x0.out.later hb)
  clear f_x0_0 f_x0_1 f_x0_2 f_x0_3
  have f_x0_0 := K_x0.out.at (i := 0) rfl
  have f_x0_1 := K_x0.out.at (i := 1) rfl
  have f_x0_2 := K_x0.out.at (i := 2) rfl
  have f_x0_3 := K_x0.out.at (i := 3) rfl
  clear B13
  have V_t13aF := Lib.hid gt
  have ge_t13aF := Lib.hid gt.own.ge
  have lt_t13aF := Lib.hid gt.lt
  clear gt hb
  go_wp2_with fail
  refine (iLabelFor_std hi0 _ [.int .i64 aF.beliefs.nodes, .slice t13aF_A1 aF.beliefs.reasons.length t13aF_c1, .slice t13aF_A2 aF.assumed.length t13aF_c2, .slice t13aF_A3 aF.bad.length t13aF_c3] L_t13aF V_t13aF.out.rep).mono ?_
  rintro e w15 ⟨v, rfl, acc⟩
  obtain ⟨A_h0, c_h0, rfl⟩ := acc.shape
  have hb := acc.below
  obtain ⟨L_h0, gt⟩ := acc.got
  have B15 := Lib.hid (B14.out.trans (hb.mono B14.out.size))
  have sz15 := hb.size
  have V_w0 := Lib.hid (V_w0.out.later hb)
  have V_g0 := Lib.hid (V_g0.out.later hb)
  have V_t13aF := Lib.hid (V_t13aF.out.later hb)
  have K_aF := Lib.hid (K_aF.out.later hb)
  clear f_aF_0 f_aF_1 f_aF_2 f_aF_3
  have f_aF_0 := K_aF.out.at (i := 0) rfl
  have f_aF_1 := K_aF.out.at (i := 1) rfl
  have f_aF_2 := K_aF.out.at (i := 2) rfl
  have f_aF_3 := K_aF.out.at (i := 3) rfl
  have K_x0 := Lib.hid (K_x0.out.later hb)
  clear f_x0_0 f_x0_1 f_x0_2 f_x0_3
  have f_x0_0 := K_x0.out.at (i := 0) rfl
  have f_x0_1 := K_x0.out.at (i := 1) rfl
  have f_x0_2 := K_x0.out.at (i := 2) rfl
  have f_x0_3 := K_x0.out.at (i := 3) rfl
  clear B14
  have V_h0 := Lib.hid gt
  have ge_h0 := Lib.hid gt.own.ge
  have lt_h0 := Lib.hid gt.lt
  clear gt hb acc
  clear V_t13aF
  go_wp2_with fail
  refine (eqIntS_any A_h0 A_w0 _ c_h0 c_w0 _ L_h0 L_w0 _ rfl (by omega) (sliceC_out V_h0.out.rep).2.2 (sliceC_out V_w0.out.rep).2.2).mono ?_
  rintro e w16 ⟨rfl, hb⟩
  have B16 := Lib.hid (B15.out.trans (hb.mono B15.out.size))
  have sz16 := hb.size
  have V_w0 := Lib.hid (V_w0.out.later hb)
  have V_g0 := Lib.hid (V_g0.out.later hb)
  have V_h0 := Lib.hid (V_h0.out.later hb)
  have K_aF := Lib.hid (K_aF.out.later hb)
  clear f_aF_0 f_aF_1 f_aF_2 f_aF_3
  have f_aF_0 := K_aF.out.at (i := 0) rfl
  have f_aF_1 := K_aF.out.at (i := 1) rfl
  have f_aF_2 := K_aF.out.at (i := 2) rfl
  have f_aF_3 := K_aF.out.at (i := 3) rfl
  have K_x0 := Lib.hid (K_x0.out.later hb)
  clear f_x0_0 f_x0_1 f_x0_2 f_x0_3
  have f_x0_0 := K_x0.out.at (i := 0) rfl
  have f_x0_1 := K_x0.out.at (i := 1) rfl
  have f_x0_2 := K_x0.out.at (i := 2) rfl
  have f_x0_3 := K_x0.out.at (i := 3) rfl
  clear B15
  clear hb
  go_wp2_with fail
  refine (heldIntS_any A_g0 _ c_g0 R0 L_g0 _ _ rfl (by omega) (by omega) (sliceC_out V_g0.out.rep).2.2).mono ?_
  rintro e w17 ⟨rfl, hb⟩
  have B17 := Lib.hid (B16.out.trans (hb.mono B16.out.size))
  have sz17 := hb.size
  have V_w0 := Lib.hid (V_w0.out.later hb)
  have V_g0 := Lib.hid (V_g0.out.later hb)
  have V_h0 := Lib.hid (V_h0.out.later hb)
  have K_aF := Lib.hid (K_aF.out.later hb)
  clear f_aF_0 f_aF_1 f_aF_2 f_aF_3
  have f_aF_0 := K_aF.out.at (i := 0) rfl
  have f_aF_1 := K_aF.out.at (i := 1) rfl
  have f_aF_2 := K_aF.out.at (i := 2) rfl
  have f_aF_3 := K_aF.out.at (i := 3) rfl
  have K_x0 := Lib.hid (K_x0.out.later hb)
  clear f_x0_0 f_x0_1 f_x0_2 f_x0_3
  have f_x0_0 := K_x0.out.at (i := 0) rfl
  have f_x0_1 := K_x0.out.at (i := 1) rfl
  have f_x0_2 := K_x0.out.at (i := 2) rfl
  have f_x0_3 := K_x0.out.at (i := 3) rfl
  clear B16
  clear hb
  have qn17 : ¬ (nextIntS ((1 : Int)) R0 < 0) := by omega
  have qm17 : ((nextIntS ((1 : Int)) R0) != (nextIntS ((1 : Int)) R0)) = false := by simp
  go_wp2_with fail
  go_ret
  exact ⟨rfl, B17.out⟩

end Go.Proofs.Ytccbhhglghboaaa

namespace Go.Proofs.Ytccbhhglghboaaa
open Go.RowKit

def wfReason (x : ReasonD) : Prop := wfInt x.for_ ∧ (fun ds => ∀ d ∈ ds, wfInt d) x.inn ∧ (fun ds => ∀ d ∈ ds, wfInt d) x.outs
set_option maxRecDepth 100000 in
theorem opensReason : Opens Try.prog 173 cReason wfReason := by
  intro H enc w base spare held fuel cs x h
  obtain ⟨xs, n, _, _, hlen, hxl, hf⟩ := DataW.trod_struct Try.underlying173 h
  have hl : cs.length = 3 := hlen.trans (by kernel_rfl)
  have hx : xs.length = 3 := hxl
  match cs, hl with
  | [a0, a1, a2], _ =>
    have f0 : DataW.trod enc Try.prog w base spare held n 3 [a0] = some (xs[0]'(by omega)) := by
      have this : DataW.trod enc Try.prog w base spare held n 3 (List.take (Try.prog.cellsOf 3) (List.drop 0 [a0, a1, a2])) = _ := (hf 0 _ rfl).trans (List.getElem?_eq_getElem (show 0 < xs.length by omega))
      rw [show Try.prog.cellsOf 3 = 1 by kernel_rfl] at this
      exact this
    have f1 : DataW.trod enc Try.prog w base spare held n 43 [a1] = some (xs[1]'(by omega)) := by
      have this : DataW.trod enc Try.prog w base spare held n 43 (List.take (Try.prog.cellsOf 43) (List.drop 1 [a0, a1, a2])) = _ := (hf 1 _ rfl).trans (List.getElem?_eq_getElem (show 1 < xs.length by omega))
      rw [show Try.prog.cellsOf 43 = 1 by kernel_rfl] at this
      exact this
    have f2 : DataW.trod enc Try.prog w base spare held n 43 [a2] = some (xs[2]'(by omega)) := by
      have this : DataW.trod enc Try.prog w base spare held n 43 (List.take (Try.prog.cellsOf 43) (List.drop 2 [a0, a1, a2])) = _ := (hf 2 _ rfl).trans (List.getElem?_eq_getElem (show 2 < xs.length by omega))
      rw [show Try.prog.cellsOf 43 = 1 by kernel_rfl] at this
      exact this
    obtain ⟨d0, M0, r0, w0⟩ := (opens_int Try.underlying3) f0
    obtain ⟨e0, _⟩ := r0
    cases e0
    obtain ⟨d1, M1, r1, w1⟩ := (opens_slice Try.underlying43 (by kernel_rfl) (opens_int Try.underlying3)) f1
    obtain ⟨A1, c1, e1, n1, m1, s1⟩ := r1
    cases e1
    obtain ⟨d2, M2, r2, w2⟩ := (opens_slice Try.underlying43 (by kernel_rfl) (opens_int Try.underlying3)) f2
    obtain ⟨A2, c2, e2, n2, m2, s2⟩ := r2
    cases e2
    exact ⟨⟨d0, d1, d2⟩, _, ⟨A1, c1, M1, A2, c2, M2, rfl, rfl, n1, m1, s1, n2, m2, s2⟩, ⟨w0, w1, w2⟩⟩

def wfBeliefs (x : BeliefsD) : Prop := wfInt x.nodes ∧ (fun ds => ∀ d ∈ ds, wfReason d) x.reasons
set_option maxRecDepth 100000 in
theorem opensBeliefs : Opens Try.prog 42 cBeliefs wfBeliefs := by
  intro H enc w base spare held fuel cs x h
  obtain ⟨xs, n, _, _, hlen, hxl, hf⟩ := DataW.trod_struct Try.underlying42 h
  have hl : cs.length = 2 := hlen.trans (by kernel_rfl)
  have hx : xs.length = 2 := hxl
  match cs, hl with
  | [a0, a1], _ =>
    have f0 : DataW.trod enc Try.prog w base spare held n 3 [a0] = some (xs[0]'(by omega)) := by
      have this : DataW.trod enc Try.prog w base spare held n 3 (List.take (Try.prog.cellsOf 3) (List.drop 0 [a0, a1])) = _ := (hf 0 _ rfl).trans (List.getElem?_eq_getElem (show 0 < xs.length by omega))
      rw [show Try.prog.cellsOf 3 = 1 by kernel_rfl] at this
      exact this
    have f1 : DataW.trod enc Try.prog w base spare held n 40 [a1] = some (xs[1]'(by omega)) := by
      have this : DataW.trod enc Try.prog w base spare held n 40 (List.take (Try.prog.cellsOf 40) (List.drop 1 [a0, a1])) = _ := (hf 1 _ rfl).trans (List.getElem?_eq_getElem (show 1 < xs.length by omega))
      rw [show Try.prog.cellsOf 40 = 1 by kernel_rfl] at this
      exact this
    obtain ⟨d0, M0, r0, w0⟩ := (opens_int Try.underlying3) f0
    obtain ⟨e0, _⟩ := r0
    cases e0
    obtain ⟨d1, M1, r1, w1⟩ := (opens_slice Try.underlying40 (by kernel_rfl) opensReason) f1
    obtain ⟨A1, c1, e1, n1, m1, s1⟩ := r1
    cases e1
    exact ⟨⟨d0, d1⟩, _, ⟨A1, c1, M1, rfl, rfl, n1, m1, s1⟩, ⟨w0, w1⟩⟩

def wfFrame (x : FrameD) : Prop := wfBeliefs x.beliefs ∧ (fun ds => ∀ d ∈ ds, wfInt d) x.assumed ∧ (fun ds => ∀ d ∈ ds, wfInt d) x.bad
set_option maxRecDepth 100000 in
theorem opensFrame : Opens Try.prog 45 cFrame wfFrame := by
  intro H enc w base spare held fuel cs x h
  obtain ⟨xs, n, _, _, hlen, hxl, hf⟩ := DataW.trod_struct Try.underlying45 h
  have hl : cs.length = 4 := hlen.trans (by kernel_rfl)
  have hx : xs.length = 3 := hxl
  match cs, hl with
  | [a0, a1, a2, a3], _ =>
    have f0 : DataW.trod enc Try.prog w base spare held n 42 [a0, a1] = some (xs[0]'(by omega)) := by
      have this : DataW.trod enc Try.prog w base spare held n 42 (List.take (Try.prog.cellsOf 42) (List.drop 0 [a0, a1, a2, a3])) = _ := (hf 0 _ rfl).trans (List.getElem?_eq_getElem (show 0 < xs.length by omega))
      rw [show Try.prog.cellsOf 42 = 2 by kernel_rfl] at this
      exact this
    have f1 : DataW.trod enc Try.prog w base spare held n 43 [a2] = some (xs[1]'(by omega)) := by
      have this : DataW.trod enc Try.prog w base spare held n 43 (List.take (Try.prog.cellsOf 43) (List.drop 2 [a0, a1, a2, a3])) = _ := (hf 1 _ rfl).trans (List.getElem?_eq_getElem (show 1 < xs.length by omega))
      rw [show Try.prog.cellsOf 43 = 1 by kernel_rfl] at this
      exact this
    have f2 : DataW.trod enc Try.prog w base spare held n 43 [a3] = some (xs[2]'(by omega)) := by
      have this : DataW.trod enc Try.prog w base spare held n 43 (List.take (Try.prog.cellsOf 43) (List.drop 3 [a0, a1, a2, a3])) = _ := (hf 2 _ rfl).trans (List.getElem?_eq_getElem (show 2 < xs.length by omega))
      rw [show Try.prog.cellsOf 43 = 1 by kernel_rfl] at this
      exact this
    obtain ⟨d0, M0, r0, w0⟩ := opensBeliefs f0
    obtain ⟨A1, c1, N1, e0, g0, n1, m1, s1⟩ := r0
    cases e0
    subst g0
    obtain ⟨d1, M1, r1, w1⟩ := (opens_slice Try.underlying43 (by kernel_rfl) (opens_int Try.underlying3)) f1
    obtain ⟨A2, c2, e1, n2, m2, s2⟩ := r1
    cases e1
    obtain ⟨d2, M2, r2, w2⟩ := (opens_slice Try.underlying43 (by kernel_rfl) (opens_int Try.underlying3)) f2
    obtain ⟨A3, c3, e2, n3, m3, s3⟩ := r2
    cases e2
    exact ⟨⟨d0, d1, d2⟩, _, ⟨A1, c1, M0, A2, c2, M1, A3, c3, M2, rfl, rfl, n1, m1, s1, n2, m2, s2, n3, m3, s3⟩, ⟨w0, w1, w2⟩⟩

end Go.Proofs.Ytccbhhglghboaaa
