/- The library's sort over a row of the call's own. -/
import Derived.Test.YtfmplnebdldpdaaShelf
import Derived.Test.YtfmplnebdldpdaaInts
namespace Go.Proofs.Ytfmplnebdldpdaa
open Go.RowKit Go.Sort

theorem acc_sorted {α : Type} [Inhabited α] (enc : α → Value) {W w : World} {e g cap : Nat} {zs : List α} (h : Acc W e 1 (.slice (some ⟨g, 0, none⟩) zs.length cap) zs.length (zs.map enc) w) (d : List α) (hd : d.length = zs.length) (n : Nat) (os : Array Obj) :
    Acc W e 1 (.slice (some ⟨g, 0, none⟩) zs.length cap) d.length (d.map enc) (grow (putRow enc (Sort.ahead w n) g 0 d.toArray) os) := by
  rcases h.own.2 with ⟨h', _⟩ | ⟨g', cap', cur, h', hb, hg, hnc, hcm, hcs, htake⟩
  · simp at h'
  simp only [Value.slice.injEq, Option.some.injEq, Addr.mk.injEq, and_true, true_and] at h'
  obtain ⟨rfl, rfl⟩ := h'
  have hlt : g < w.heap.size := (Array.getElem?_eq_some_iff.1 hg).1
  have hh : (putRow enc (Sort.ahead w n) g 0 d.toArray).heap[g]? = some (.cells (putCells enc 0 d.toArray cur) e (0, 0)) := by
    simp only [putRow, mapBlock, heap_ahead, Array.getElem?_modify, if_true, hg, Option.map_some, onCells]
  refine ⟨⟨by simp, .inr ⟨g, cap, putCells enc 0 d.toArray cur, by rw [hd], hb, ?_, by omega, hcm, by simpa [putCells] using hcs, ?_⟩⟩, ?_⟩
  · rw [heap_grow_old _ _ (by simpa using hlt)]; exact hh
  · apply List.ext_getElem?
    intro j
    simp only [Nat.mul_one, List.getElem?_take, List.getElem?_map, Array.getElem?_toList, putCells, Array.getElem?_mapIdx, List.size_toArray]
    by_cases hj : j < d.length
    · have hjc : j < cur.size := by omega
      simp [hj, hjc]
    · simp [hj]
  · refine h.below.trans ⟨rfl, rfl, rfl, by simp, fun k hk => ?_⟩
    rw [heap_grow_old _ _ (by simp; have := h.size; omega)]
    simp only [putRow, mapBlock, heap_ahead, Array.getElem?_modify]
    rw [if_neg (by omega)]

theorem sortInts_any (W w : World) (v : Value) (zs : List Int) (h : AccI W v zs w) (hsz : zs.length < 4611686018427387904) :
    Calls Try.prog 46 #[v] w fun e w' => e = .returned (.tuple #[]) ∧ AccI W v (sortI zs) w' := by
  obtain ⟨A, c, rfl, _, _⟩ := h.shape
  rcases Nat.eq_zero_or_pos zs.length with h0 | h0
  · have hz : zs = [] := List.eq_nil_of_length_eq_zero h0
    subst hz
    refine (Try.sort_Ints_none A c w).mono ?_
    rintro e w' ⟨rfl, rfl⟩
    exact ⟨rfl, by simpa [sortI] using h⟩
  · obtain ⟨_, L, hI, hO⟩ := h.ints
    obtain ⟨b, off, rfl, hb, hc⟩ := hI.at_ h0
    have hoff : off = 0 := by
      rcases h.own.2 with ⟨h', _⟩ | ⟨g', cap', cur, h', _⟩
      · simp at h'
      · simp at h'; exact h'.1.2
    subst hoff
    refine (Try.sort_Ints b 0 c zs w ?_ (hO.lt b hb) hsz).mono ?_
    · intro j hj
      have hj' : j < zs.length := by simpa using hj
      refine ⟨?_, hO.frozen hb _⟩
      rw [hI.cell hj']
      simp [hj']
    · rintro e w' ⟨rfl, n, os, rfl⟩
      have := acc_sorted (Value.int .i64) h (sortI zs) (sortI_length zs) n os
      refine ⟨rfl, ?_⟩
      exact this

end Go.Proofs.Ytfmplnebdldpdaa
