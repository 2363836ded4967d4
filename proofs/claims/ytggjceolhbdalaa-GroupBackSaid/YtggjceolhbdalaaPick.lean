/- keep.pick. -/
import Derived.Test.YtggjceolhbdalaaShapes
import Derived.IntWalk
namespace Go.Proofs.Ytggjceolhbdalaa
open Go.RowKit Go.Plan

/-- Which of so many. -/
def pickN (t : Int) (n : Nat) : Nat := ((t % 18446744073709551616) % (n : Int)).toNat
theorem pickN_lt (t : Int) (n : Nat) (h : 0 < n) : pickN t n < n := by
  unfold pickN
  have h1 := Int.emod_lt_of_pos (t % 18446744073709551616) (show (0 : Int) < n by omega)
  have h2 := Int.emod_nonneg (t % 18446744073709551616) (show (n : Int) ≠ 0 by omega)
  omega

theorem pick_c (t : Int) (n : Nat) (w : World) (hn : 0 < n) (hn2 : n ≤ 1000000) (ht : I64 t) :
    Calls Try.prog 7 #[.int .i64 t, .int .i64 (n : Int)] w fun e w' => e = .returned (.int .i64 (pickN t n : Nat)) ∧ w = w' := by
  have hlt := pickN_lt t n hn
  unfold I64 at ht
  go_enter Try.func7, Try.ntmps7
  go_wp2_with fail
  go_ret
  refine ⟨?_, rfl⟩
  have e1 : IntKind.u64.wrap t = t % 18446744073709551616 := by simp [IntKind.wrap, IntKind.bits, IntKind.signed]
  have h0 : 0 ≤ t % 18446744073709551616 := Int.emod_nonneg _ (by decide)
  have e2 : (t % 18446744073709551616).tmod (n : Int) = (t % 18446744073709551616) % (n : Int) := Int.tmod_eq_emod_of_nonneg h0
  have h1 := Int.emod_lt_of_pos (t % 18446744073709551616) (show (0 : Int) < n by omega)
  have h2 := Int.emod_nonneg (t % 18446744073709551616) (show (n : Int) ≠ 0 by omega)
  rw [show wrap64 ((IntKind.u64.wrap t).tmod (n : Int)) = ((pickN t n : Nat) : Int) from by
    rw [e1, e2]; unfold wrap64 pickN; omega]
  rfl
end Go.Proofs.Ytggjceolhbdalaa
