import Derived.Test.YtpjocgebnodnoaaY2wz
import Derived.Test.YtpjocgebnodnoaaCrz
namespace Go.Proofs.Ytpjocgebnodnoaa
open Go.RowKit
set_option linter.unusedVariables false
set_option linter.unusedSimpArgs false
def stpZ (s f r : Int) : Int × Bool := if stepZ s f r < 0 then (0, false) else (stepZ s f r, true)
theorem stp_z (s f r : Int) : stpZ s f r = if stepZ s f r < 0 then (0, false) else (stepZ s f r, true) := rfl
def walkF (f r : Int) : Nat → Int → List Int
  | 0, _ => []
  | n + 1, s => if (stpZ s f r).2 = true then (if ((f == 0) && (r == 0)) = true then [] else (stpZ s f r).1 :: walkF f r n (stpZ s f r).1) else []
theorem walkF_len (f r : Int) : ∀ (n : Nat) (s : Int), (walkF f r n s).length ≤ n
  | 0, _ => Nat.le_refl _
  | n + 1, s => by
    unfold walkF
    have := walkF_len f r n (stpZ s f r).1
    repeat' split
    all_goals simp
    exact this
theorem rStep_l {s f r : Int} (h0 : 0 ≤ s) (h1 : s < 64) : ∀ (d i k : Nat), i + d = 64 → d + 20 < k → (findZ (s % 8 + f) (s / 8 + r) = -1 ∨ (i : Int) ≤ findZ (s % 8 + f) (s / 8 + r)) → i_alfilref01_Step.l0 k s f r i = some (findZ (s % 8 + f) (s / 8 + r)) := by
  intro d
  induction d with
  | zero => intro i k hi hk hf; obtain ⟨k, rfl⟩ : ∃ j, k = j + 1 := ⟨k - 1, by omega⟩; rw [i_alfilref01_Step.l0, if_neg (by omega), findZ_done (by omega)]
  | succ d ih =>
    intro i k hi hk hf; obtain ⟨k, rfl⟩ : ∃ j, k = j + 1 := ⟨k - 1, by omega⟩
    have es : wrap64 ((i : Int) + 1) = ((i + 1 : Nat) : Int) := by rw [q64 (by omega) (by omega)]; rfl
    rw [i_alfilref01_Step.l0, if_pos (by omega), rFile (by omega) (by omega) (by omega), Option.bind_some, rFile h0 h1 (by omega), Option.bind_some, rRank (by omega) (by omega) (by omega), Option.bind_some, rRank h0 h1 (by omega), Option.bind_some, q64 (x := (i : Int) % 8 - s % 8) (by omega) (by omega), q64 (x := (i : Int) / 8 - s / 8) (by omega) (by omega), es]
    have more : ¬ ((i : Int) % 8 = s % 8 + f ∧ (i : Int) / 8 = s / 8 + r) → i_alfilref01_Step.l0 k s f r ((i + 1 : Nat) : Int) = some (findZ (s % 8 + f) (s / 8 + r)) := fun hn => ih (i + 1) k (by omega) (by omega) (by have := findZ_miss hf hn; omega)
    by_cases c1 : (i : Int) % 8 - s % 8 = f
    · rw [if_pos c1]
      by_cases c2 : (i : Int) / 8 - s / 8 = r
      · rw [if_pos c2, findZ_hit (k := (i : Int)) (by omega) (by omega) (by omega) (by omega)]
      · rw [if_neg c2]; exact more (by omega)
    · rw [if_neg c1]; exact more (by omega)
theorem rStep (s f r : Int) {k : Nat} (hk : 90 < k) : i_alfilref01_Step.f k s f r = some (stepZ s f r) := by
  rw [i_alfilref01_Step.f, i_alfilref01_Right.f]
  by_cases h : 0 ≤ s ∧ s < 64
  · rw [if_pos h.1, Option.bind_some, decide_eq_true (by omega), if_pos rfl, stepZ_in h.1 h.2]
    exact rStep_l h.1 h.2 64 0 k rfl (by omega) (by have := findZ_cases (s % 8 + f) (s / 8 + r); omega)
  · rw [stepZ_out h]
    by_cases h0 : 0 ≤ s
    · rw [if_pos h0, Option.bind_some, decide_eq_false (by omega), if_neg (by simp)]
    · rw [if_neg h0, Option.bind_some, if_neg (by simp)]
def mu (f r s : Int) : Nat := if 0 < f then (7 - s % 8).toNat else if f < 0 then (s % 8).toNat else if 0 < r then (7 - s / 8).toNat else (s / 8).toNat
theorem mu_step {s f r : Int} (h : 0 ≤ stepZ s f r) (hne : ¬ (f = 0 ∧ r = 0)) : 0 ≤ s ∧ s < 64 ∧ stepZ s f r < 64 ∧ mu f r (stepZ s f r) < mu f r s ∧ mu f r s ≤ 7 := by
  by_cases hs : 0 ≤ s ∧ s < 64
  · rw [stepZ_in hs.1 hs.2] at *
    by_cases hf : 0 ≤ s % 8 + f ∧ s % 8 + f < 8 ∧ 0 ≤ s / 8 + r ∧ s / 8 + r < 8
    · rw [findZ_in hf.1 hf.2.1 hf.2.2.1 hf.2.2.2]
      have e1 : (8 * (s / 8 + r) + (s % 8 + f)) % 8 = s % 8 + f := by omega
      have e2 : (8 * (s / 8 + r) + (s % 8 + f)) / 8 = s / 8 + r := by omega
      refine ⟨hs.1, hs.2, by omega, ?_, ?_⟩
      · unfold mu
        rw [e1, e2]
        repeat' split
        all_goals omega
      · unfold mu
        repeat' split
        all_goals omega
    · rw [findZ_out hf] at h; omega
  · rw [stepZ_out hs] at h; omega
def wz (f r : Int) : Nat → Int → List Int
  | 0, _ => []
  | n + 1, s => if stepZ s f r < 0 then [] else stepZ s f r :: wz f r n (stepZ s f r)
theorem walkF_wz {f r : Int} (hne : ¬ (f = 0 ∧ r = 0)) : ∀ (n : Nat) (s : Int), walkF f r n s = wz f r n s
  | 0, _ => rfl
  | n + 1, s => by
    unfold walkF wz
    rw [stp_z]
    by_cases h : stepZ s f r < 0
    · rw [if_pos h, if_pos h]; rfl
    · rw [if_neg h, if_neg h]
      simp only [if_true]
      rw [if_neg (by simp; omega), walkF_wz hne n]
theorem walkF_zero (n : Nat) (s : Int) : walkF 0 0 n s = [] := by
  cases n with
  | zero => rfl
  | succ n => unfold walkF; simp
theorem rRay_l {f r : Int} (hne : ¬ (f = 0 ∧ r = 0)) : ∀ (n k : Nat) (acc : List Int) (x : Int), x < 64 → (x < 0 ∨ mu f r x < n) → n + 100 < k → acc.length + n < 1000 →
    i_alfilref06_Ray.l0 k f r acc x = some (acc ++ (if x < 0 then [] else x :: wz f r n x)) ∧ i_alfilref06_Ray.l1 k f r acc x = some (acc ++ (if x < 0 then [] else x :: wz f r n x)) := by
  intro n
  induction n with
  | zero =>
    intro k acc x hx hm hk ha
    obtain ⟨k, rfl⟩ : ∃ j, k = j + 1 := ⟨k - 1, by omega⟩
    have h : x < 0 := by omega
    rw [i_alfilref06_Ray.l0, i_alfilref06_Ray.l1, if_neg (show ¬ x ≥ 0 by omega), if_neg (show ¬ x ≥ 0 by omega), if_pos h]; simp
  | succ n ih =>
    intro k acc x hx hm hk ha
    obtain ⟨k, rfl⟩ : ∃ j, k = j + 1 := ⟨k - 1, by omega⟩
    rw [i_alfilref06_Ray.l0, i_alfilref06_Ray.l1]
    by_cases h : x < 0
    · rw [if_neg (show ¬ x ≥ 0 by omega), if_neg (show ¬ x ≥ 0 by omega), if_pos h]; simp
    · have c1 : x ≥ 0 := by omega
      have c2 : acc.length < 17592186044416 := by omega
      rw [if_pos c1, if_pos c1, if_pos c2, if_pos c2, rStep _ _ _ (by omega), Option.bind_some, Option.bind_some, if_neg h]
      have e : wz f r (n + 1) x = if stepZ x f r < 0 then [] else stepZ x f r :: wz f r n (stepZ x f r) := rfl
      have h64 : stepZ x f r < 64 := by have := stepZ_cases x f r; omega
      have hi := ih k (acc ++ [x]) (stepZ x f r) h64 (by
        by_cases hs : stepZ x f r < 0
        · exact .inl hs
        · have := mu_step (s := x) (f := f) (r := r) (by omega) hne; omega) (by omega) (by simp; omega)
      rw [hi.1, hi.2, e]
      simp
theorem rRay (s f r : Int) {k : Nat} (hk : 300 < k) : i_alfilref06_Ray.f k s f r = some (walkF f r 64 s) := by
  have hmain : ¬ (f = 0 ∧ r = 0) → i_alfilref01_Step.f k s f r = some (stepZ s f r) ∧ walkF f r 64 s = (if stepZ s f r < 0 then [] else stepZ s f r :: wz f r 63 (stepZ s f r)) := fun hne => ⟨rStep _ _ _ (by omega), by rw [walkF_wz hne]; rfl⟩
  have h64 : stepZ s f r < 64 := by have := stepZ_cases s f r; omega
  have hmu : ¬ (f = 0 ∧ r = 0) → stepZ s f r < 0 ∨ mu f r (stepZ s f r) < 63 := fun hne => by
    by_cases hs : stepZ s f r < 0
    · exact .inl hs
    · have := mu_step (s := s) (f := f) (r := r) (by omega) hne; omega
  rw [i_alfilref06_Ray.f]
  by_cases h0 : f = 0
  · rw [if_pos h0]
    by_cases h1 : r = 0
    · rw [if_pos h1, h0, h1, walkF_zero]
    · have hne : ¬ (f = 0 ∧ r = 0) := fun h => h1 h.2
      obtain ⟨e1, e2⟩ := hmain hne
      rw [if_neg h1, e1, Option.bind_some, (rRay_l hne 63 k [] _ h64 (hmu hne) (by omega) (by simp)).1, e2]; simp
  · have hne : ¬ (f = 0 ∧ r = 0) := fun h => h0 h.1
    obtain ⟨e1, e2⟩ := hmain hne
    rw [if_neg h0, e1, Option.bind_some, (rRay_l hne 63 k [] _ h64 (hmu hne) (by omega) (by simp)).2, e2]; simp
theorem drop_nt {α : Type} {l : List α} {i : Nat} (d : α) (h : i < l.length) : l.drop i = nt l i d :: l.drop (i + 1) := by
  rw [List.drop_eq_getElem_cons h]; congr 1; unfold nt; simp [List.getD, List.getElem?_eq_getElem h]
theorem up1 {n : Nat} (h : n < 1000) : wrap64 ((n : Int) + 1) = ((n + 1 : Nat) : Int) := by rw [q64 (by omega) (by omega)]; rfl
theorem walk_on {f r : Int} : ∀ (n : Nat) (s x : Int), x ∈ walkF f r n s → 0 ≤ x ∧ x < 64
  | 0, s, x, h => by cases h
  | n + 1, s, x, h => by
    unfold walkF at h
    rw [stp_z] at h
    by_cases hs : stepZ s f r < 0
    · rw [if_pos hs] at h; cases h
    · rw [if_neg hs] at h
      simp only [if_true] at h
      split at h
      · cases h
      · rcases List.mem_cons.1 h with rfl | h
        · have := stepZ_cases s f r; omega
        · exact walk_on n _ x h
end Go.Proofs.Ytpjocgebnodnoaa
