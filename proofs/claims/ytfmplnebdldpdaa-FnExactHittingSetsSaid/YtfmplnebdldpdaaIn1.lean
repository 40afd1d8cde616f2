/- The reference's l1In. -/
import Derived.Test.YtfmplnebdldpdaaProg
import Derived.Test.YtfmplnebdldpdaaInts
namespace Go.Proofs.Ytfmplnebdldpdaa
open Go.RowKit

def in1 (a lo hi : Int) : Bool := decide (lo ≤ a) && decide (a ≤ hi)
theorem l1In_any (a lo hi : Int) (w : World) : Calls Try.prog 34 #[.int .i64 a, .int .i64 lo, .int .i64 hi] w fun e w' => e = .returned (.bool (in1 a lo hi)) ∧ w = w' := by
  cases h0 : decide (lo ≤ a)
  all_goals
    go_enter Try.func34, Try.ntmps34
    go_wp2
    go_ret
    exact ⟨ret_b (by simp [in1, h0]), rfl⟩

end Go.Proofs.Ytfmplnebdldpdaa
