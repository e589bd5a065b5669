import Derived.Test.YtpjocgebnodnoaaDtz
import Derived.Test.YtpjocgebnodnoaaC4wz
namespace Go.Proofs.Ytpjocgebnodnoaa
open Go.RowKit
set_option linter.unusedVariables false
set_option linter.unusedSimpArgs false
def nineL : List Int := (firstL.set 24 1).set 1 0
theorem first_8 : B8 firstL := by
  have h : firstL.length = 64 ∧ (firstL.all fun x => decide (-128 ≤ x ∧ x ≤ 127)) = true := by decide +kernel
  refine ⟨h.1, fun i => ?_⟩
  rcases Nat.lt_or_ge i 64 with hi | hi
  · have := List.all_eq_true.1 h.2 firstL[i] (List.getElem_mem (by rw [h.1]; exact hi))
    rw [List.getD_eq_getElem?_getD, List.getElem?_eq_getElem (by rw [h.1]; exact hi)]; exact of_decide_eq_true this
  · rw [List.getD_eq_getElem?_getD, List.getElem?_eq_none (by rw [h.1]; exact hi)]; decide
theorem nine_8 : B8 nineL := by
  have h : nineL.length = 64 ∧ (nineL.all fun x => decide (-128 ≤ x ∧ x ≤ 127)) = true := by decide +kernel
  refine ⟨h.1, fun i => ?_⟩
  rcases Nat.lt_or_ge i 64 with hi | hi
  · have := List.all_eq_true.1 h.2 nineL[i] (List.getElem_mem (by rw [h.1]; exact hi))
    rw [List.getD_eq_getElem?_getD, List.getElem?_eq_getElem (by rw [h.1]; exact hi)]; exact of_decide_eq_true this
  · rw [List.getD_eq_getElem?_getD, List.getElem?_eq_none (by rw [h.1]; exact hi)]; decide
theorem first_facts : wrongZ firstL = 0 ∧ (manyZ firstL 1 0 : Int) + promZ firstL 0 = 8 ∧ (manyZ firstL 1 1 : Int) + promZ firstL 1 = 8 ∧ manyZ firstL 0 0 = 16 ∧ manyZ firstL 0 1 = 16 := by decide +kernel
theorem nine_facts : wrongZ nineL = 0 ∧ (manyZ nineL 1 0 : Int) + promZ nineL 0 = 9 := by decide +kernel
def home0 : List (Int × Nat) := [(8, 0), (9, 1), (10, 2), (11, 3), (12, 4), (13, 5), (14, 6), (15, 7)]
def home1 : List (Int × Nat) := [(48, 0), (49, 1), (50, 2), (51, 3), (52, 4), (53, 5), (54, 6), (55, 7)]
instance (side : Int) (p : Int × Nat) : Decidable (okP side p) := by unfold okP; infer_instance
theorem home0_fit : (home0.map (·.2)).Nodup ∧ (∀ p ∈ home0, okP 0 p) ∧ home0.map (·.1) = whereZ firstL (sg 0 1) ∧ cost home0 = 0 := by decide +kernel
theorem home1_fit : (home1.map (·.2)).Nodup ∧ (∀ p ∈ home1, okP 1 p) ∧ home1.map (·.1) = whereZ firstL (sg 1 1) ∧ cost home1 = 0 := by decide +kernel
end Go.Proofs.Ytpjocgebnodnoaa
