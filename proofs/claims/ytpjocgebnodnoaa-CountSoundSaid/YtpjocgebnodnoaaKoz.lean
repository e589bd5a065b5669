import Derived.Test.YtpjocgebnodnoaaKtz
import Derived.Test.YtpjocgebnodnoaaK2wz
namespace Go.Proofs.Ytpjocgebnodnoaa
open Go.RowKit
set_option linter.unusedVariables false
set_option linter.unusedSimpArgs false
set_option maxRecDepth 100000
def cutL (sl : Bool) (l : List Int) : List Int := if sl = true then l else l.take 1
def refP (man : Int) : List (Int × Int) :=
  if man = 1 ∨ man = -1 then [(1, man), (-1, man)]
  else if man = 2 ∨ man = -2 then [(1, 2), (2, 1), (2, -1), (1, -2), (-1, -2), (-2, -1), (-2, 1), (-1, 2)]
  else if man = 3 ∨ man = -3 then [(1, 1), (1, -1), (-1, -1), (-1, 1)]
  else if man = 4 ∨ man = -4 then [(0, 1), (1, 0), (0, -1), (-1, 0)]
  else if man = 5 ∨ man = -5 ∨ man = 6 ∨ man = -6 then [(0, 1), (1, 0), (0, -1), (-1, 0), (1, 1), (1, -1), (-1, -1), (-1, 1)]
  else []
def slB (man : Int) : Bool := man == 3 || man == -3 || man == 4 || man == -4 || man == 5 || man == -5
def flatP (P : List (Int × Int)) : List Int := P.flatMap fun x => [x.1, x.2]
def raysR (man s : Int) : List (List Int) := ((refP man).map fun x => cutL (slB man) (walkF x.1 x.2 64 s)).filter fun l => !l.isEmpty
theorem flatP_len (P : List (Int × Int)) : (flatP P).length = 2 * P.length := by
  induction P with
  | nil => rfl
  | cons x P ih => show (x.1 :: x.2 :: flatP P).length = _; simp [ih]; omega
theorem flatP_at : ∀ (P : List (Int × Int)) (j : Nat), j < P.length → nt (flatP P) (2 * j) 0 = (nt P j (0, 0)).1 ∧ nt (flatP P) (2 * j + 1) 0 = (nt P j (0, 0)).2
  | [], j, h => by simp at h
  | x :: P, 0, _ => ⟨rfl, rfl⟩
  | x :: P, j + 1, h => by
    have := flatP_at P j (by simpa using h)
    exact this
theorem rSlides {man : Int} (h0 : -6 ≤ man) (h1 : man ≤ 6) {k : Nat} (hk : 100 < k) : i_alfilref06_Slides.f k man = some (slB man) := by
  rw [i_alfilref06_Slides.f, rKind (by omega) (by omega) (by omega), Option.bind_some]
  have : ∀ m : Fin 13, (if kindZ ((m.val : Int) - 6) = 3 then some true else if kindZ ((m.val : Int) - 6) = 4 then some true else some (kindZ ((m.val : Int) - 6) == 5)) = some (slB ((m.val : Int) - 6)) := by decide +kernel
  have h := this ⟨(man + 6).toNat, by omega⟩
  rw [show (((⟨(man + 6).toNat, by omega⟩ : Fin 13).val : Nat) : Int) - 6 = man by show ((man + 6).toNat : Int) - 6 = man; omega] at h
  exact h
theorem rSteps {man : Int} (h0 : -6 ≤ man) (h1 : man ≤ 6) {k : Nat} (hk : 100 < k) : i_alfilref06_Steps.f k man = some (flatP (refP man)) := by
  have : ∀ m : Fin 13, (i_alfilref06_Steps.f 200 ((m.val : Int) - 6)) = some (flatP (refP ((m.val : Int) - 6))) := by decide +kernel
  have h := this ⟨(man + 6).toNat, by omega⟩
  rw [show (((⟨(man + 6).toNat, by omega⟩ : Fin 13).val : Nat) : Int) - 6 = man by show ((man + 6).toNat : Int) - 6 = man; omega] at h
  rw [← h]
  unfold i_alfilref06_Steps.f
  rw [rKind (by omega) (by omega) (by omega), rKind (by omega) (by omega) (by omega)]
theorem rOf_l {man : Int} (h0 : -6 ≤ man) (h1 : man ≤ 6) (s : Int) (P : List (Int × Int)) (hP : P.length ≤ 8) : ∀ (d j k : Nat) (acc : List (List Int)), j + d = P.length → d + 400 < k → acc.length ≤ j →
    i_alfilref06_Of.l0 k man s (flatP P) acc ((2 * j : Nat) : Int) = some (acc ++ (((P.drop j).map fun x => cutL (slB man) (walkF x.1 x.2 64 s)).filter fun l => !l.isEmpty)) := by
  intro d
  induction d with
  | zero =>
    intro j k acc hj hk ha
    obtain ⟨k, rfl⟩ : ∃ q, k = q + 1 := ⟨k - 1, by omega⟩
    have c : ¬ ((2 * j : Nat) : Int) < ((flatP P).length : Int) := by rw [flatP_len]; omega
    rw [i_alfilref06_Of.l0, if_neg c, List.drop_of_length_le (by omega)]; simp
  | succ d ih =>
    intro j k acc hj hk ha
    obtain ⟨k, rfl⟩ : ∃ q, k = q + 1 := ⟨k - 1, by omega⟩
    have q := flatP_at P j (by omega)
    have c1 : ((2 * j : Nat) : Int) < ((flatP P).length : Int) := by rw [flatP_len]; omega
    have c2 : 0 ≤ ((2 * j : Nat) : Int) := by omega
    have e1 : wrap64 (((2 * j : Nat) : Int) + 1) = ((2 * j + 1 : Nat) : Int) := by rw [q64 (by omega) (by omega)]; rfl
    have e2 : wrap64 (((2 * j : Nat) : Int) + 2) = ((2 * (j + 1) : Nat) : Int) := by rw [q64 (by omega) (by omega)]; omega
    have c3 : 0 ≤ ((2 * j + 1 : Nat) : Int) := by omega
    have c4 : ((2 * j + 1 : Nat) : Int) < ((flatP P).length : Int) := by rw [flatP_len]; omega
    have c5 : acc.length < 5864062014805 := by omega
    have ih1 := fun acc' (h : acc'.length ≤ j + 1) => ih (j + 1) k acc' (by omega) (by omega) h
    have hs := rSlides h0 h1 (k := k) (by omega)
    have hr := rRay s (nt P j (0, 0)).1 (nt P j (0, 0)).2 (k := k) (by omega)
    have ed : P.drop j = nt P j (0, 0) :: P.drop (j + 1) := drop_nt _ (by omega)
    clear ih
    rw [i_alfilref06_Of.l0, if_pos c1, if_pos c2, e1, if_pos c3, if_pos c4, Int.toNat_natCast, Int.toNat_natCast, q.1, q.2, hr, Option.bind_some, e2, ed, List.map_cons, List.filter_cons]
    generalize walkF (nt P j (0, 0)).1 (nt P j (0, 0)).2 64 s = l
    have h2 := ih1 acc (by omega)
    have fin0 : ∀ l' : List Int, (if (l'.length : Int) > 0 then (if acc.length < 5864062014805 then (i_alfilref06_Of.l0 k man s (flatP P) (acc ++ [l']) ((2 * (j + 1) : Nat) : Int)) else (none)) else (i_alfilref06_Of.l0 k man s (flatP P) acc ((2 * (j + 1) : Nat) : Int))) =
        some (acc ++ if (!l'.isEmpty) = true then l' :: List.filter (fun l => !l.isEmpty) (List.map (fun x => cutL (slB man) (walkF x.1 x.2 64 s)) (P.drop (j + 1))) else List.filter (fun l => !l.isEmpty) (List.map (fun x => cutL (slB man) (walkF x.1 x.2 64 s)) (P.drop (j + 1)))) := by
      intro l'
      have h1 := ih1 (acc ++ [l']) (by simp; omega)
      cases l' with
      | nil => rw [if_neg (by simp), h2]; rfl
      | cons x l => rw [if_pos (by simp), if_pos c5, h1]; simp
    by_cases hl : (l.length : Int) > 1
    · rw [if_pos hl, hs, Option.bind_some]
      cases hsl : slB man with
      | true => rw [if_pos rfl, show cutL true l = l from rfl]; have h_ := fin0 l; rw [hsl] at h_; exact h_
      | false => rw [if_neg (by decide), if_pos (by omega), Option.bind_some, show cutL false l = l.take 1 from rfl]; have h_ := fin0 (l.take 1); rw [hsl] at h_; exact h_
    · rw [if_neg hl, show cutL (slB man) l = l by unfold cutL; split; rfl; exact List.take_of_length_le (by omega)]; exact fin0 l
theorem refP_len (man : Int) : (refP man).length ≤ 8 := by unfold refP; (repeat' split) <;> simp
theorem rOf {man : Int} (h0 : -6 ≤ man) (h1 : man ≤ 6) (s : Int) {k : Nat} (hk : 500 < k) : i_alfilref06_Of.f k man s = some (raysR man s) := by
  rw [i_alfilref06_Of.f, rSteps h0 h1 (by omega), Option.bind_some]
  have := rOf_l h0 h1 s (refP man) (refP_len man) (refP man).length 0 k [] (by omega) (by have := refP_len man; omega) (Nat.le_refl _)
  rw [List.nil_append, List.drop_zero] at this
  exact this
end Go.Proofs.Ytpjocgebnodnoaa
