/- The walks of the laws on squares. -/
import Derived.Test.YtpgdcpkggmkooaaSq
namespace Go.Proofs.Ytpgdcpkggmkooaa
open Go.RowKit
theorem sqRank_in (s : Int) (h0 : 0 ≤ s) (h1 : s < 64) (w : World) :
    Calls Try.prog 71 #[.int .i64 s] w fun e w' => e = .returned (.int .i64 (s / 8)) ∧ w = w' := by
  rw [← rankZ_in h0 h1]; exact sqRank s w
theorem dist_b {a b : Int} (h0 : 0 ≤ a) (h1 : a < 8) (h2 : 0 ≤ b) (h3 : b < 8) : 0 ≤ distZ a b ∧ distZ a b < 8 := by unfold distZ; split <;> omega
theorem step28 : stepZ 28 1 2 = 45 := by decide
theorem minusw {x : Int} (h0 : -8 < x) (h1 : x < 8) : wrap64 (-x) = -x := by unfold wrap64; omega
end Go.Proofs.Ytpgdcpkggmkooaa
