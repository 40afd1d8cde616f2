/- HittingSets: the contracts in the form that the exact laws ask for. -/
import Derived.Test.YtfmplnebdldpdaaHitS
import Derived.Test.YtfmplnebdldpdaaOpen
namespace Go.Proofs.Ytfmplnebdldpdaa
open Go.RowKit
theorem sHittingSets_std (w : World) (A : Option Addr) (c : Nat) (x : List Int) (L : List Nat) (cz : x.length ≤ 1048576) (h : Sli intC w A x L) (n : Int) (_ : wfInt n) :
    Calls Try.prog 31 #[.slice A x.length c, .int .i64 n] w (GivesS intC 3 w (sLeast (hitting x n))) := by
  obtain ⟨L', h'⟩ := h.ints
  exact (sHittingSets_any A _ c x L' n w cz h').mono fun _ _ g => g.std
theorem iHittingSets_std (w : World) (A : Option Addr) (c : Nat) (x : List Int) (L : List Nat) (cz : x.length ≤ 1048576) (h : Sli intC w A x L) (n : Int) (_ : wfInt n) :
    Calls Try.prog 32 #[.slice A x.length c, .int .i64 n] w (GivesS intC 3 w (iLeast (hitting x n))) := by
  obtain ⟨L', h'⟩ := h.ints
  exact (iHittingSets_any A _ c x L' n w cz h').mono fun _ _ g => g.std
theorem hitting_len (l : List Int) (n : Int) : (hitting l n).length ≤ 64 := by
  rw [hitting]
  split
  · next h =>
    obtain ⟨n, rfl⟩ := Int.eq_ofNat_of_zero_le h.1
    have := pow_small n (by omega)
    have hh := hitAll_len l (2 ^ n) 0 []
    simp only [Int.toNat_natCast]
    split
    · simp at hh; omega
    · simp
  · simp
end Go.Proofs.Ytfmplnebdldpdaa
