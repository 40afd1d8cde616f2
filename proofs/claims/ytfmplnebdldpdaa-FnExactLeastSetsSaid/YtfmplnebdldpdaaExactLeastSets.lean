/- The program's LeastSets returns what the reference's returns. -/
import Derived.Test.YtfmplnebdldpdaaLeast
namespace Go.Proofs.Ytfmplnebdldpdaa
open Go.RowKit

theorem sLeastL_len (l : List Int) : ∀ (r out : List Int), (sLeastL l r out).length ≤ r.length + out.length
  | [], out => by simp [sLeastL]
  | x :: r, out => by
    rw [sLeastL]
    have := sLeastL_len l r (if leastIn l x (decide (0 ≤ x)) then put13 out x else out)
    have h2 := put13_len out x
    have h3 : (if leastIn l x (decide (0 ≤ x)) then put13 out x else out).length ≤ out.length + 1 := by split <;> omega
    generalize (if leastIn l x (decide (0 ≤ x)) then put13 out x else out) = o at this h3 ⊢
    simp; omega
theorem sLeast_len (l : List Int) : (sLeast l).length ≤ l.length := by have := sLeastL_len l l []; simpa [sLeast] using this
theorem eqI_self (l : List Int) : eqI l l = true := by simp [eqI]

set_option maxHeartbeats 2000000 in
theorem FnExactLeastSets_walk (A : Option Addr) (n c : Nat) (zs : List Int) (L : List Nat) (w : World) (hm : n ≤ 9223372036854775807) (h : Ints w A n zs L) :
    Calls Try.prog 5 #[.slice A n c] w fun e w' => e = .returned (.bool true) ∧ Below w.heap.size w w' := by
  by_cases hbig : (1048576 : Int) < n
  · go_enter Try.func5, Try.ntmps5
    go_wp2
    go_ret
    exact ⟨rfl, Below.refl _ _⟩
  have hn : n ≤ 1048576 := by omega
  have hl := h.len
  have H := Lib.hid h
  have HL := Lib.hid hl
  have hll := sLeast_len zs
  rw [← hl] at hll
  clear h hl
  go_enter Try.func5, Try.ntmps5
  go_wp2_with fail
  refine (toIntS_any A n c zs L w (by omega) H.out).mono ?_
  rintro e w1 ⟨v1, rfl, h1⟩
  obtain ⟨A1, c1, rfl, _, _⟩ := h1.shape
  obtain ⟨_, L1, hi1, _⟩ := h1.ints
  have b1 := Lib.hid h1.below
  have I1 := Lib.hid hi1
  have hz1 : zs.length ≤ 1048576 := by have := HL.out; omega
  clear h1 hi1
  go_wp2_with fail
  refine (sLeastSets_any _ _ _ zs L1 w1 (by omega) I1.out).mono ?_
  rintro e w2 ⟨v2, rfl, h2⟩
  have b2 := Lib.hid (b1.out.trans (h2.below.mono b1.out.size))
  have hs2 := Lib.hid b2.out.size
  obtain ⟨L2, l2⟩ := h2.live
  have V2 := Lib.hid l2
  have lt2 := Lib.hid l2.lt
  clear h2 l2
  go_wp2_with fail
  refine (toIntS_any A n c zs L w2 (by omega) (H.out.below b2.out)).mono ?_
  rintro e w3 ⟨v3, rfl, h3⟩
  have V2' := Lib.hid (V2.out.below h3.below)
  have b3 := Lib.hid (b2.out.trans (h3.below.mono b2.out.size))
  have hs3 := Lib.hid b3.out.size
  obtain ⟨A3, c3, rfl, _, _⟩ := h3.shape
  obtain ⟨_, L3, hi3, ho3⟩ := h3.ints
  have I3 := Lib.hid hi3
  have O3 := Lib.hid ho3
  clear h3 V2 hi3 ho3 b2
  go_wp2_with fail
  refine (iLeastSets_any _ _ _ zs L3 w3 (by omega) I3.out).mono ?_
  rintro e w4 ⟨v4, rfl, h4⟩
  have b4 := Lib.hid (b3.out.trans (h4.below.mono b3.out.size))
  have V2 := Lib.hid (V2'.out.below h4.below)
  have V3 : Hid (LiveI w4 (.slice A3 zs.length c3) zs L3 w2.heap.size) := (LiveI.mk ⟨A3, c3, rfl, I3.out⟩ O3.out).below h4.below
  obtain ⟨L4, l4⟩ := h4.live
  rw [least_same] at l4
  have V4 := Lib.hid l4
  have ap : Hid (∀ b ∈ L4, b ∉ L3) := apart_of (s := w3.heap.size) l4.own.ge (O3.out.lt)
  have ap4 : Hid (∀ b ∈ L2, b ∉ L4) := apart_of' (s := w3.heap.size) (fun b m => V2'.out.lt b m) (l4.own.ge)
  have ap2 : Hid (∀ b ∈ L2, b ∉ L3) := apart_of' (s := w2.heap.size) lt2.out (O3.out.ge)
  clear h4 V2' I3 O3 l4 b3
  go_wp2_with fail
  refine (eqIntS_live _ _ _ _ L4 L2 _ _ w4 (by omega) (by omega) V4.out V2.out).mono ?_
  rintro e w5 ⟨rfl, q5, rfl⟩
  rw [eqI_self]
  have b5 := Lib.hid (below_drewN b4.out q5)
  have V2a := Lib.hid (V2.out.drewN q5)
  have V3a := Lib.hid (V3.out.drewN q5)
  have V4a := Lib.hid (V4.out.drewN q5)
  clear V2 V3 V4 b4
  generalize w4.drewN q5 = w5 at *
  go_wp2_with fail
  refine (toIntS_any A n c zs L w5 (by omega) (H.out.below b5.out)).mono ?_
  rintro e w6 ⟨v6, rfl, h6⟩
  have b6 := Lib.hid (b5.out.trans (h6.below.mono b5.out.size))
  have V2 := Lib.hid (V2a.out.below h6.below)
  have V3 := Lib.hid (V3a.out.below h6.below)
  have V4 := Lib.hid (V4a.out.below h6.below)
  obtain ⟨L6, l6⟩ := h6.live
  have V6 := Lib.hid l6
  clear V2a V3a V4a b5 h6 l6
  go_wp2_with fail
  refine (eqIntS_live _ _ _ _ L3 L6 _ _ w6 (by omega) (by omega) V3.out V6.out).mono ?_
  rintro e w7 ⟨rfl, q7, rfl⟩
  rw [eqI_self]
  have b7 := Lib.hid (below_drewN b6.out q7)
  have V2a := Lib.hid (V2.out.drewN q7)
  have V3a := Lib.hid (V3.out.drewN q7)
  have V4a := Lib.hid (V4.out.drewN q7)
  clear V2 V3 V4 V6 b6
  generalize w6.drewN q7 = w7 at *
  go_wp2_with fail
  refine (markIntS_live _ zs L3 _ 1 w7 (by omega) (by omega) V3a.out).mono ?_
  rintro e w8 ⟨rfl, h8, o8⟩
  have b8 := Lib.hid (b7.out.trans (o8.below b7.out.size (fun b m => Nat.le_trans hs2.out (h8.own.ge b m))))
  have V2 := Lib.hid (V2a.out.only o8 ap2.out)
  have V4 := Lib.hid (V4a.out.only o8 ap.out)
  clear V2a V3a V4a b7 h8 o8
  have hk : decide ((1 : Int) + ↑zs.length < 0) = false := by simp; omega
  go_wp2_with fail
  refine (eqIntS_live _ _ _ _ L4 L2 _ _ w8 (by omega) (by omega) V4.out V2.out).mono ?_
  rintro e w9 ⟨rfl, q9, rfl⟩
  rw [eqI_self]
  have b9 := Lib.hid (below_drewN b8.out q9)
  have V2a := Lib.hid (V2.out.drewN q9)
  have V4a := Lib.hid (V4.out.drewN q9)
  clear V2 V4 b8
  generalize w8.drewN q9 = w9 at *
  go_wp2_with fail
  refine (markIntS_live _ _ L4 _ 1 w9 (by omega) (by omega) V4a.out).mono ?_
  rintro e w10 ⟨rfl, h10, o10⟩
  have b10 := Lib.hid (b9.out.trans (o10.below b9.out.size (fun b m => Nat.le_trans hs3.out (h10.own.ge b m))))
  have V2 := Lib.hid (V2a.out.only o10 ap4.out)
  have V4 := Lib.hid h10
  clear V2a V4a b9 h10 o10
  go_wp2_with fail
  refine (heldIntS_live _ _ L4 _ 1 w10 (by omega) (by omega) V4.out).mono ?_
  rintro e w11 ⟨rfl, rfl⟩
  have hk2 : decide ((1 : Int) + ↑(sLeast zs).length < 0) = false := by simp; omega
  have hk3 : (((1 : Int) + ↑(sLeast zs).length) != ((1 : Int) + ↑(sLeast zs).length)) = false := by simp
  go_wp2_with fail
  refine (toIntS_any A n c zs L w10 (by omega) (H.out.below b10.out)).mono ?_
  rintro e w12 ⟨v12, rfl, h12⟩
  have b12 := Lib.hid (b10.out.trans (h12.below.mono b10.out.size))
  have V2a := Lib.hid (V2.out.below h12.below)
  have V4a := Lib.hid (V4.out.below h12.below)
  obtain ⟨A12, c12, rfl, _, _⟩ := h12.shape
  obtain ⟨_, L12, hi12, _⟩ := h12.ints
  have I12 := Lib.hid hi12
  clear V2 V4 b10 h12 hi12
  go_wp2_with fail
  refine (iLeastSets_any _ _ _ zs L12 w12 (by omega) I12.out).mono ?_
  rintro e w13 ⟨v13, rfl, h13⟩
  have b13 := Lib.hid (b12.out.trans (h13.below.mono b12.out.size))
  have V2 := Lib.hid (V2a.out.below h13.below)
  have V4 := Lib.hid (V4a.out.below h13.below)
  obtain ⟨L13, l13⟩ := h13.live
  rw [least_same] at l13
  have V13 := Lib.hid l13
  clear V2a V4a b12 h13 l13
  go_wp2_with fail
  refine (eqIntS_live _ _ _ _ L13 L2 _ _ w13 (by omega) (by omega) V13.out V2.out).mono ?_
  rintro e w14 ⟨rfl, q14, rfl⟩
  rw [eqI_self]
  have b14 := Lib.hid (below_drewN b13.out q14)
  have V4a := Lib.hid (V4.out.drewN q14)
  clear V2 V4 V13 b13
  generalize w13.drewN q14 = w14 at *
  go_wp2_with fail
  refine (heldIntS_live _ _ L4 _ 1 w14 (by omega) (by omega) V4a.out).mono ?_
  rintro e w15 ⟨rfl, rfl⟩
  go_wp2_with fail
  go_ret
  exact ⟨rfl, b14.out⟩

end Go.Proofs.Ytfmplnebdldpdaa
