/-
  The contract of Low: a number, from 0 to below n.
-/
import Derived.Test.YtphoijlpgplnkaaRows
import Derived.Test.YtphoijlpgplnkaaSl
namespace Go.Proofs.Ytphoijlpgplnkaa
open Go.RowKit

def low (x n : Int) : Int := (x % 18446744073709551616) % n
theorem low_bd (x m : Int) (h1 : 0 < m) : 0 ≤ low x m ∧ low x m < m := by
  unfold low
  exact ⟨Int.emod_nonneg _ (by omega), Int.emod_lt_of_pos _ h1⟩
theorem low_walk (x m : Int) (h1 : 0 < m) (h2 : m < 9223372036854775808) : wrap64 ((IntKind.u64.wrap x).tmod m) = low x m := by
  have b := low_bd x m h1
  have e : (IntKind.u64.wrap x).tmod m = low x m := by
    unfold low
    have : IntKind.u64.wrap x = x % 18446744073709551616 := by rfl
    rw [this]
    exact Int.tmod_eq_emod_of_nonneg (Int.emod_nonneg _ (by omega))
  rw [e]
  unfold wrap64
  omega

set_option maxHeartbeats 400000 in
theorem lowC (x m : Int) (w : World) (h1 : 0 < m) (h2 : m < 2147483648) :
    Calls Try.prog 7 #[.int .i64 x, .int .i64 m] w fun e w' => e = .returned (.int .i64 (low x m)) ∧ w = w' := by
  go_enter Try.func7, Try.ntmps7
  go_wp2
  go_ret
  exact ⟨ret_int (low_walk x m h1 (by omega)), rfl⟩

end Go.Proofs.Ytphoijlpgplnkaa
