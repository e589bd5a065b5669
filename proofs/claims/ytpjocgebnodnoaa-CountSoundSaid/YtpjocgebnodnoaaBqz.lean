import Derived.Test.YtpjocgebnodnoaaBpz
namespace Go.Proofs.Ytpjocgebnodnoaa
open Go.RowKit
def whereK (l : List Int) (m : Int) (k : Nat) : List Nat := (List.range k).filter fun i => l.getD i 0 == m
theorem whereK_suc (l : List Int) (m : Int) (k : Nat) : whereK l m (k + 1) = whereK l m k ++ (if l.getD k 0 = m then [k] else []) := by
  unfold whereK
  rw [List.range_succ, List.filter_append]
  congr 1
  by_cases h : l.getD k 0 = m
  · rw [if_pos h, List.filter_cons, if_pos (by simpa using h)]; rfl
  · rw [if_neg h, List.filter_cons, if_neg (by simpa using h)]; rfl
theorem whereK_len (l : List Int) (m : Int) (k : Nat) : (whereK l m k).length ≤ k := by unfold whereK; exact Nat.le_trans (List.length_filter_le _ _) (by simp)
def sg (side k : Int) : Int := if side = 0 then k else -k
def rsum (l : List Int) (kind side : Int) (n : Nat) : Nat → Nat
  | 0 => 0
  | j + 1 => rsum l kind side n j + (if (side = 0 ∨ side = 1) ∧ (kind = 0 ∨ kind = (j + 1 : Nat)) then (whereK l (sg side (j + 1 : Nat)) n).length else 0)
theorem rsum_le (l : List Int) (kind side : Int) (n j : Nat) : rsum l kind side n j ≤ n * j := by
  induction j with
  | zero => exact Nat.zero_le _
  | succ j ih =>
    unfold rsum
    have := whereK_len l (sg side (j + 1 : Nat)) n
    rw [Nat.mul_succ]
    split <;> omega
theorem one_man (x kind side : Int) : (if inB x kind side = true then 1 else 0 : Nat) =
    ((List.range 6).map fun j => if ((side = 0 ∨ side = 1) ∧ (kind = 0 ∨ kind = (j + 1 : Nat))) ∧ x = sg side (j + 1 : Nat) then 1 else 0).sum := by
  have e : List.range 6 = [0, 1, 2, 3, 4, 5] := rfl
  rw [e]
  simp only [List.map_cons, List.map_nil, List.sum_cons, List.sum_nil]
  unfold inB sg
  rcases (show x < -6 ∨ 6 < x ∨ x = -6 ∨ x = -5 ∨ x = -4 ∨ x = -3 ∨ x = -2 ∨ x = -1 ∨ x = 0 ∨ x = 1 ∨ x = 2 ∨ x = 3 ∨ x = 4 ∨ x = 5 ∨ x = 6 by omega) with h | h | rfl | rfl | rfl | rfl | rfl | rfl | rfl | rfl | rfl | rfl | rfl | rfl | rfl
  · have hm : manB x = false := decide_eq_false (by omega)
    rw [hm]
    repeat rw [if_neg (by first | (intro hh; split at hh <;> omega) | (split <;> omega) | simp)]
    rfl
  · have hm : manB x = false := decide_eq_false (by omega)
    rw [hm]
    repeat rw [if_neg (by first | (intro hh; split at hh <;> omega) | (split <;> omega) | simp)]
    rfl
  all_goals
    by_cases h0 : side = 0
    · subst h0
      simp [manB, sideZ, kindZ]
      try (split <;> split <;> omega)
    · by_cases h1 : side = 1
      · subst h1
        simp [manB, sideZ, kindZ]
        try (split <;> split <;> omega)
      · simp [manB, sideZ, kindZ, h0, h1]
        try omega
def psum (x kind side : Int) : Nat → Nat
  | 0 => 0
  | j + 1 => psum x kind side j + (if ((side = 0 ∨ side = 1) ∧ (kind = 0 ∨ kind = (j + 1 : Nat))) ∧ x = sg side (j + 1 : Nat) then 1 else 0)
theorem psum_six (x kind side : Int) : psum x kind side 6 = if inB x kind side = true then 1 else 0 := by
  rw [one_man]
  have e : List.range 6 = [0, 1, 2, 3, 4, 5] := rfl
  rw [e]
  simp only [psum, List.map_cons, List.map_nil, List.sum_cons, List.sum_nil, Nat.zero_add, Nat.add_zero]
  omega
theorem rsum_suc (l : List Int) (kind side : Int) (n : Nat) : ∀ j, rsum l kind side (n + 1) j = rsum l kind side n j + psum (l.getD n 0) kind side j
  | 0 => rfl
  | j + 1 => by
    unfold rsum psum
    rw [rsum_suc l kind side n j, whereK_suc, List.length_append]
    by_cases hc : (side = 0 ∨ side = 1) ∧ (kind = 0 ∨ kind = (j + 1 : Nat))
    · rw [if_pos hc, if_pos hc]
      by_cases hd : l.getD n 0 = sg side (j + 1 : Nat)
      · rw [if_pos hd, if_pos ⟨hc, hd⟩]; simp only [List.length_cons, List.length_nil]; omega
      · rw [if_neg hd, if_neg (fun h => hd h.2)]; simp only [List.length_nil]; omega
    · rw [if_neg hc, if_neg hc, if_neg (fun h => hc h.1)]; omega
theorem cnt_rsum (l : List Int) (kind side : Int) : ∀ n, cntK l kind side n = rsum l kind side n 6
  | 0 => by
    rw [cntK_zero]
    have := rsum_le l kind side 0 6
    omega
  | n + 1 => by rw [cntK_suc, rsum_suc, psum_six, cnt_rsum l kind side n]
theorem many_rsum (l : List Int) (kind side : Int) : rsum l kind side 64 6 = manyZ l kind side := (cnt_rsum l kind side 64).symm
end Go.Proofs.Ytpjocgebnodnoaa
