/- The law StipMovers in plain words. -/
import Derived.Test.YtabbkeliknidgaaS3w
namespace Go.Proofs.Ytabbkeliknidgaa
open Go.RowKit
set_option linter.unusedVariables false
set_option linter.unusedSimpArgs false
theorem sm_w64 {x : Int} (h0 : -9223372036854775808 ≤ x) (h1 : x < 9223372036854775808) : wrap64 x = x := by unfold wrap64; omega
theorem sm_wakes : i_alfillaw15_wakes.f 1000 = some true := by decide +kernel
/-- is a stipulation right? -/
def rightZ (k g n : Int) (h : Bool) : Bool := if k < 1 ∨ 8 < k ∨ n < 0 ∨ 64 < n then false else if k = 8 then decide (g = 0) && (!h && decide (0 < n)) else if g ≠ 1 ∧ g ≠ 2 then false else if h then decide (k = 5) else decide (0 < n)
theorem sm_ref (k g n : Int) (h : Bool) : i_alfilref15_Right.f k g n h = some (rightZ k g n h) := by
  unfold i_alfilref15_Right.f rightZ
  cases h <;> (repeat' split) <;> first | rfl | (exfalso; omega) | (simp_all; done) | (simp_all; omega)
theorem sm_right (k g n : Int) (h : Bool) (hk : k = 5 → h = false → n ≠ 0 ∨ True) : i_stip_right.f k g n h = some (rightZ k g n h) := by
  unfold i_stip_right.f rightZ
  cases h <;> (repeat' split) <;> first | rfl | (exfalso; omega) | (simp_all; done) | (simp_all; omega)
/-- how many single moves. -/
def pliesZ (k n : Int) (h : Bool) : Int := if k = 5 then (if h then 2 * n + 1 else 2 * n) else if k = 6 then n + 1 else if k = 7 then n else 0
theorem rightZ_n {k g n : Int} {h : Bool} (hr : rightZ k g n h = true) : 1 ≤ k ∧ k ≤ 8 ∧ 0 ≤ n ∧ n ≤ 64 ∧ (h = true → k = 5) := by
  unfold rightZ at hr
  split at hr
  · simp at hr
  · split at hr
    · simp at hr; refine ⟨by omega, by omega, by omega, by omega, fun h0 => ?_⟩; simp_all
    · split at hr
      · simp at hr
      · split at hr
        · simp at hr; exact ⟨by omega, by omega, by omega, by omega, fun _ => hr⟩
        · refine ⟨by omega, by omega, by omega, by omega, fun h0 => by simp_all⟩
theorem sm_rplies {k g n : Int} {h : Bool} (hr : rightZ k g n h = true) : i_alfilref15_Plies.f k g n h = some (pliesZ k n h) := by
  obtain ⟨h1, h2, h3, h4, h5⟩ := rightZ_n hr
  have e1 : wrap64 (n + n) = n + n := sm_w64 (by omega) (by omega)
  have e2 : wrap64 (n + n + 1) = n + n + 1 := sm_w64 (by omega) (by omega)
  have e3 : wrap64 (0 + 1 + n) = 0 + 1 + n := sm_w64 (by omega) (by omega)
  have e4 : wrap64 (0 + n) = 0 + n := sm_w64 (by omega) (by omega)
  unfold i_alfilref15_Plies.f pliesZ
  rw [e1, e2, e3, e4]
  cases h <;> (repeat' split) <;> first | (exfalso; omega) | (simp_all; done) | (simp_all; omega) | (congr 1; omega)
theorem sm_plies (k g n : Int) (h : Bool) : i_stip_Plies.f k g n h = some (if rightZ k g n h = true then pliesZ k n h else -1) := by
  unfold i_stip_Plies.f
  rw [sm_right k g n h (fun _ _ => .inr trivial)]
  simp only [Option.bind_some]
  split
  · rename_i hr
    obtain ⟨h1, h2, h3, h4, h5⟩ := rightZ_n hr
    have e1 : wrap64 (2 * n) = 2 * n := sm_w64 (by omega) (by omega)
    have e2 : wrap64 (2 * n + 1) = 2 * n + 1 := sm_w64 (by omega) (by omega)
    have e3 : wrap64 (n + 1) = n + 1 := sm_w64 (by omega) (by omega)
    rw [e1, e2, e3]
    unfold pliesZ
    cases h <;> (repeat' split) <;> first | rfl | (exfalso; omega) | (simp_all; done)
  · rfl
set_option maxHeartbeats 4000000 in
theorem movers_is (k g n : Int) (h : Bool) (a p : Int) : i_alfillaw15_StipMovers.f 1000 k g n h a p = some true := by
  unfold i_alfillaw15_StipMovers.f
  rw [sm_wakes]
  simp only [Option.bind_some, if_true]
  unfold i_stip_Mover.f i_men_Other.f
  rw [sm_ref, sm_plies]
  simp only [Option.bind_some]
  cases hr : rightZ k g n h with
  | false =>
    simp only [Bool.false_eq_true, if_false]
    by_cases h0 : a = 0
    · subst h0; (repeat' split) <;> simp_all <;> omega
    · by_cases h1 : a = 1
      · subst h1; (repeat' split) <;> simp_all <;> omega
      · simp [h0, h1]
  | true =>
    rw [sm_rplies hr]
    obtain ⟨h1, h2, h3, h4, h5⟩ := rightZ_n hr
    simp only [Option.bind_some, if_true]
    have hp : p < 0 ∨ 0 ≤ p := by omega
    have q1 : wrap64 (pliesZ k n h - 1) = pliesZ k n h - 1 := sm_w64 (by unfold pliesZ; (repeat' split) <;> omega) (by unfold pliesZ; (repeat' split) <;> omega)
    rw [q1]
    have q2 : k = 6 → pliesZ k n h - 1 = n := fun h6 => by unfold pliesZ; rw [if_neg (by omega), if_pos h6]; omega
    by_cases h0 : a = 0
    · subst h0
      simp only [if_true, show wrap64 (1 - 0) = 1 from sm_w64 (by omega) (by omega), Option.bind_some]
      generalize pliesZ k n h = q at *
      (repeat' split) <;> simp_all <;> omega
    · by_cases h1 : a = 1
      · subst h1
        simp only [if_true, show wrap64 (1 - 1) = 0 from sm_w64 (by omega) (by omega), show ¬ (1 : Int) = 0 by decide, if_false, Option.bind_some]
        generalize pliesZ k n h = q at *
        (repeat' split) <;> simp_all <;> omega
      · simp only [h0, h1, if_false, Option.bind_some]
        (repeat' split) <;> simp_all <;> omega
theorem walk_StipMovers (k g n : Int) (h : Bool) (a p : Int) (w : World) :
    Calls Try.prog 7 #[.agg #[.int .i64 k, .int .i64 g, .int .i64 n, .bool h], .int .i64 a, .int .i64 p] w fun e w' => e = .returned (.bool true) ∧ Below w.heap.size w w' :=
  i_alfillaw15_StipMovers.calls 1000 k g n h a p true w (movers_is k g n h a p)
end Go.Proofs.Ytabbkeliknidgaa
