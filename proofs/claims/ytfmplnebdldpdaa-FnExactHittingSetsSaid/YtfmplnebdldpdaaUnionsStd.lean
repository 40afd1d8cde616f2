/- LeastSets and UnionsOf, in the form that the exact laws use. -/
import Derived.Test.YtfmplnebdldpdaaUnions
import Derived.Test.YtfmplnebdldpdaaTypes
namespace Go.Proofs.Ytfmplnebdldpdaa
open Go.RowKit

theorem reps_ints {w : World} : ∀ {ds : List Int} {xs : List Value} {L : List Nat}, intC.reps w xs ds L → xs = ds.map (Value.int .i64) ∧ L = []
  | [], _, _, h => ⟨by simp [h.1], h.2⟩
  | d :: ds, _, _, ⟨c1, c2, L1, L2, rfl, rfl, h1, h2⟩ => by
    obtain ⟨e1, e2⟩ := reps_ints h2
    obtain ⟨rfl, rfl⟩ := h1
    simp [e1, e2]
theorem reps_of_ints (w : World) : ∀ (ds : List Int), intC.reps w (ds.map (Value.int .i64)) ds []
  | [] => ⟨rfl, rfl⟩
  | d :: ds => ⟨[.int .i64 d], ds.map (Value.int .i64), [], [], rfl, rfl, ⟨rfl, rfl⟩, reps_of_ints w ds⟩
theorem Sli.ints {w : World} {A : Option Addr} {ds : List Int} {L : List Nat} (h : Sli intC w A ds L) : ∃ L', Ints w A ds.length ds L' := by
  obtain ⟨xs, L0, L1, rfl, h1, h2⟩ := h
  obtain ⟨rfl, rfl⟩ := reps_ints h2
  exact ⟨L0, h1⟩
theorem AccI.accC {W w : World} {v : Value} {zs : List Int} (h : AccI W v zs w) : AccC intC 3 W v zs w := by
  refine ⟨⟨_, [], h.own, reps_of_ints w zs, ?_⟩, h.below⟩
  rw [List.append_nil]
  rcases h.own.2 with ⟨rfl, _⟩ | ⟨g, cap, cur, rfl, hb, hg, _⟩
  · exact Own.nil _ _
  · refine ⟨by simp [Value.ownBlock], by simpa [Value.ownBlock] using hb, fun b m => ?_⟩
    simp [Value.ownBlock] at m
    subst m
    exact ⟨cur, _, hg⟩
theorem GivesInts.std {w w' : World} {zs : List Int} {e : Ending} (h : GivesInts w zs e w') : GivesS intC 3 w zs e w' := by
  obtain ⟨v, rfl, h⟩ := h
  exact ⟨v, rfl, h.accC⟩
theorem sLeastSets_std (w : World) (A : Option Addr) (c : Nat) (x : List Int) (L : List Nat) (cz : x.length ≤ 1048576) (h : Sli intC w A x L) :
    Calls Try.prog 18 #[.slice A x.length c] w (GivesS intC 3 w (sLeast x)) := by
  obtain ⟨L', h'⟩ := h.ints
  exact (sLeastSets_any A _ c x L' w (by omega) h').mono fun _ _ g => g.std
theorem iLeastSets_std (w : World) (A : Option Addr) (c : Nat) (x : List Int) (L : List Nat) (cz : x.length ≤ 1048576) (h : Sli intC w A x L) :
    Calls Try.prog 20 #[.slice A x.length c] w (GivesS intC 3 w (iLeast x)) := by
  obtain ⟨L', h'⟩ := h.ints
  exact (iLeastSets_any A _ c x L' w (by omega) h').mono fun _ _ g => g.std
theorem sUnionsOf_std (w : World) (A : Option Addr) (c : Nat) (x : List Int) (L : List Nat) (cz : x.length ≤ 1048576) (h : Sli intC w A x L) (B : Option Addr) (d : Nat) (y : List Int) (M : List Nat) (cy : y.length ≤ 1048576) (h2 : Sli intC w B y M) :
    Calls Try.prog 30 #[.slice A x.length c, .slice B y.length d] w (GivesS intC 3 w (sLeast (unAll x y))) := by
  obtain ⟨L', h'⟩ := h.ints
  obtain ⟨M', h2'⟩ := h2.ints
  exact (sUnionsOf_any A B _ _ c d x y L' M' w cz cy h' h2').mono fun _ _ g => g.std
theorem iUnionsOf_std (w : World) (A : Option Addr) (c : Nat) (x : List Int) (L : List Nat) (cz : x.length ≤ 1048576) (h : Sli intC w A x L) (B : Option Addr) (d : Nat) (y : List Int) (M : List Nat) (cy : y.length ≤ 1048576) (h2 : Sli intC w B y M) :
    Calls Try.prog 28 #[.slice A x.length c, .slice B y.length d] w (GivesS intC 3 w (iLeast (unAll x y))) := by
  obtain ⟨L', h'⟩ := h.ints
  obtain ⟨M', h2'⟩ := h2.ints
  exact (iUnionsOf_any A B _ _ c d x y L' M' w cz cy h' h2').mono fun _ _ g => g.std
theorem sLeastL_len (l : List Int) : ∀ (r out : List Int), (sLeastL l r out).length ≤ r.length + out.length
  | [], out => by simp [sLeastL]
  | x :: r, out => by
    rw [sLeastL]
    have := sLeastL_len l r (if leastIn l x (decide (0 ≤ x)) then put13 out x else out)
    have h2 := put13_len out x
    have h3 : (if leastIn l x (decide (0 ≤ x)) then put13 out x else out).length ≤ out.length + 1 := by split <;> omega
    generalize (if leastIn l x (decide (0 ≤ x)) then put13 out x else out) = o at this h3 ⊢
    simp; omega
theorem sLeast_len (l : List Int) : (sLeast l).length ≤ l.length := by have := sLeastL_len l l []; simpa [sLeast] using this

end Go.Proofs.Ytfmplnebdldpdaa
