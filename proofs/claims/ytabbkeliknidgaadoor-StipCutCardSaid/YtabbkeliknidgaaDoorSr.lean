/- Right stipulations in plain words. -/
import Derived.Test.YtabbkeliknidgaaDoorS2w
namespace Go.Proofs.YtabbkeliknidgaaDoor
open Go.RowKit
set_option linter.unusedVariables false
set_option linter.unusedSimpArgs false
theorem sm_w64 {x : Int} (h0 : -9223372036854775808 ≤ x) (h1 : x < 9223372036854775808) : wrap64 x = x := by unfold wrap64; omega
/-- is a stipulation right? -/
def rightZ (k g n : Int) (h : Bool) : Bool := if k < 1 ∨ 8 < k ∨ n < 0 ∨ 64 < n then false else if k = 8 then decide (g = 0) && (!h && decide (0 < n)) else if g ≠ 1 ∧ g ≠ 2 then false else if h then decide (k = 5) else decide (0 < n)
theorem sm_ref (k g n : Int) (h : Bool) : i_alfilref15_Right.f k g n h = some (rightZ k g n h) := by
  unfold i_alfilref15_Right.f rightZ
  cases h <;> (repeat' split) <;> first | rfl | (exfalso; omega) | (simp_all; done) | (simp_all; omega)
theorem sm_right (k g n : Int) (h : Bool) : i_stip_right.f k g n h = some (rightZ k g n h) := by
  unfold i_stip_right.f rightZ
  cases h <;> (repeat' split) <;> first | rfl | (exfalso; omega) | (simp_all; done) | (simp_all; omega)
/-- how many single moves. -/
def pliesZ (k n : Int) (h : Bool) : Int := if k = 5 then (if h then 2 * n + 1 else 2 * n) else if k = 6 then n + 1 else if k = 7 then n else 0
theorem rightZ_n {k g n : Int} {h : Bool} (hr : rightZ k g n h = true) : 1 ≤ k ∧ k ≤ 8 ∧ 0 ≤ n ∧ n ≤ 64 ∧ (h = true → k = 5) := by
  unfold rightZ at hr
  split at hr
  · simp at hr
  · split at hr
    · simp at hr; refine ⟨by omega, by omega, by omega, by omega, fun h0 => ?_⟩; simp_all
    · split at hr
      · simp at hr
      · split at hr
        · simp at hr; exact ⟨by omega, by omega, by omega, by omega, fun _ => hr⟩
        · refine ⟨by omega, by omega, by omega, by omega, fun h0 => by simp_all⟩
theorem rightZ_g {k g n : Int} {h : Bool} (hr : rightZ k g n h = true) : 0 ≤ g ∧ g ≤ 2 := by
  unfold rightZ at hr
  (repeat' split at hr) <;> simp_all <;> omega
theorem sm_plies (k g n : Int) (h : Bool) : i_stip_Plies.f k g n h = some (if rightZ k g n h = true then pliesZ k n h else -1) := by
  unfold i_stip_Plies.f
  rw [sm_right k g n h]
  simp only [Option.bind_some]
  split
  · rename_i hr
    obtain ⟨h1, h2, h3, h4, h5⟩ := rightZ_n hr
    have e1 : wrap64 (2 * n) = 2 * n := sm_w64 (by omega) (by omega)
    have e2 : wrap64 (2 * n + 1) = 2 * n + 1 := sm_w64 (by omega) (by omega)
    have e3 : wrap64 (n + 1) = n + 1 := sm_w64 (by omega) (by omega)
    rw [e1, e2, e3]
    unfold pliesZ
    cases h <;> (repeat' split) <;> first | rfl | (exfalso; omega) | (simp_all; done)
  · rfl
end Go.Proofs.YtabbkeliknidgaaDoor
