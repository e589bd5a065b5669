/- Rays in plain words: the squares along a way, a man's rays from a square. -/
import Derived.Test.YtpjocgebnodnoaaY1w
import Derived.Test.YtpjocgebnodnoaaCq
namespace Go.Proofs.Ytpjocgebnodnoaa
open Go.RowKit
set_option linter.unusedVariables false
set_option linter.unusedSimpArgs false
/-- a step: where, and whether there is one. -/
def stpZ (s f r : Int) : Int × Bool := (i_square_Step.f s f r).getD (0, false)
theorem stp_is (s f r : Int) : i_square_Step.f s f r = some (stpZ s f r) := by
  unfold stpZ
  cases h : i_square_Step.f s f r with
  | some x => rfl
  | none =>
    exfalso
    have e1 : ∀ x, ∃ b, i_square_Right.f x = some b := fun x => by unfold i_square_Right.f; split <;> exact ⟨_, rfl⟩
    have e2 : ∀ x, ∃ b, i_square_on.f x = some b := fun x => by unfold i_square_on.f; split <;> exact ⟨_, rfl⟩
    have e3 : ∀ x y, ∃ b, i_square_At.f x y = some b := fun x y => by
      unfold i_square_At.f
      obtain ⟨b, hb⟩ := e2 x
      rw [hb, Option.bind_some]
      split
      · obtain ⟨b, hb⟩ := e2 y
        rw [hb, Option.bind_some]
        split <;> exact ⟨_, rfl⟩
      · exact ⟨_, rfl⟩
    unfold i_square_Step.f at h
    obtain ⟨b, hb⟩ := e1 s
    obtain ⟨q, hq⟩ := e3 (wrap64 (Int.tmod s 8 + f)) (wrap64 (wrap64 (Int.tdiv s 8) + r))
    rw [hb, Option.bind_some] at h
    repeat' split at h
    all_goals first | cases h | (rw [hq, Option.bind_some] at h; cases h)
/-- the squares by a step from a square, no more than n. -/
def walkF (f r : Int) : Nat → Int → List Int
  | 0, _ => []
  | n + 1, s => if (stpZ s f r).2 = true then (if ((f == 0) && (r == 0)) = true then [] else (stpZ s f r).1 :: walkF f r n (stpZ s f r).1) else []
theorem walkF_len (f r : Int) : ∀ (n : Nat) (s : Int), (walkF f r n s).length ≤ n
  | 0, _ => Nat.le_refl _
  | n + 1, s => by
    unfold walkF
    have := walkF_len f r n (stpZ s f r).1
    repeat' split
    all_goals simp
    exact this
theorem walk_l (f r : Int) (m : Nat) (hm : m ≤ 64) : ∀ (n k : Nat) (s : Int) (acc : List Int), acc.length + n = m → n < k → i_rays_walk.l0 k f r m s acc = some (acc ++ walkF f r n s) := by
  intro n
  induction n with
  | zero =>
    intro k s acc ha hk
    obtain ⟨k, rfl⟩ : ∃ j, k = j + 1 := ⟨k - 1, by omega⟩
    rw [i_rays_walk.l0, if_neg (by omega)]; simp [walkF]
  | succ n ih =>
    intro k s acc ha hk
    obtain ⟨k, rfl⟩ : ∃ j, k = j + 1 := ⟨k - 1, by omega⟩
    rw [i_rays_walk.l0, if_pos (by omega), stp_is, Option.bind_some]
    unfold walkF
    by_cases h1 : (stpZ s f r).2 = true
    · rw [if_pos h1, if_pos h1]
      by_cases h2 : ((f == 0) && (r == 0)) = true
      · rw [if_pos h2, if_pos h2]; simp
      · rw [if_neg h2, if_neg h2, if_pos (by omega), ih k _ _ (by simp; omega) (by omega)]; simp
    · rw [if_neg h1, if_neg h1]; simp
theorem walk_is (s f r : Int) {m : Nat} (hm : m ≤ 64) {k : Nat} (hk : m < k) : i_rays_walk.f k s f r m = some (walkF f r m s) := by
  rw [i_rays_walk.f]
  have := walk_l f r m hm m k s [] (by simp) hk
  rw [List.nil_append] at this; exact this
/-- a man's steps, and how long its rays are at most. -/
def stepsL (man : Int) : List (Int × Int) := ((i_rays_steps.f man).getD ([], 0)).1
def stepsM (man : Int) : Nat := ((i_rays_steps.f man).getD ([], 0)).2.toNat
theorem steps_is : ∀ m : Fin 13, i_rays_steps.f ((m.val : Int) - 6) = some (stepsL ((m.val : Int) - 6), (stepsM ((m.val : Int) - 6) : Int)) ∧ (stepsL ((m.val : Int) - 6)).length ≤ 8 ∧ stepsM ((m.val : Int) - 6) ≤ 64 := by decide +kernel
def rayP (man s : Int) (j : Nat) : List (List Int) := (((stepsL man).take j).map fun x => walkF x.1 x.2 (stepsM man) s).filter fun l => !l.isEmpty
def raysZ (man s : Int) : List (List Int) := if man = 0 then [] else ((stepsL man).map fun x => walkF x.1 x.2 (stepsM man) s).filter fun l => !l.isEmpty
theorem rayP_zero (man s : Int) : rayP man s 0 = [] := rfl
theorem rayP_all {man s : Int} (h : man ≠ 0) : rayP man s (stepsL man).length = raysZ man s := by unfold rayP raysZ; rw [if_neg h, List.take_length]
theorem rayP_suc {man s : Int} {j : Nat} (hj : j < (stepsL man).length) : rayP man s (j + 1) = rayP man s j ++ (if walkF (nt (stepsL man) j (0, 0)).1 (nt (stepsL man) j (0, 0)).2 (stepsM man) s = [] then [] else [walkF (nt (stepsL man) j (0, 0)).1 (nt (stepsL man) j (0, 0)).2 (stepsM man) s]) := by
  unfold rayP
  have e : nt (stepsL man) j (0, 0) = (stepsL man)[j] := by unfold nt; simp [List.getD, List.getElem?_eq_getElem hj]
  rw [List.take_add_one, List.getElem?_eq_getElem hj, Option.toList_some, List.map_append, List.filter_append, e]
  congr 1
  simp only [List.map_cons, List.map_nil, List.filter_cons, List.filter_nil]
  cases walkF (stepsL man)[j].1 (stepsL man)[j].2 (stepsM man) s <;> simp
/-- the rays by number: man by man (from -6 on), square by square. -/
def rzN (i : Nat) : List (List Int) := raysZ ((i / 64 : Nat) - 6 : Int) ((i % 64 : Nat) : Int)
theorem rz_at {m s : Nat} (hs : s < 64) : rzN (m * 64 + s) = raysZ ((m : Int) - 6) (s : Int) := by
  unfold rzN
  rw [show (m * 64 + s) / 64 = m by omega, show (m * 64 + s) % 64 = s by omega]
end Go.Proofs.Ytpjocgebnodnoaa
