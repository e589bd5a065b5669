import Derived.Test.YtpjocgebnodnoaaMpz
namespace Go.Proofs.Ytpjocgebnodnoaa
open Go.RowKit
def firstL : List Int := [4, 2, 3, 5, 6, 3, 2, 4, 1, 1, 1, 1, 1, 1, 1, 1, 0, 0, 0, 0, 0, 0, 0, 0, 0, 0, 0, 0, 0, 0, 0, 0, 0, 0, 0, 0, 0, 0, 0, 0, 0, 0, 0, 0, 0, 0, 0, 0, -1, -1, -1, -1, -1, -1, -1, -1, -4, -2, -3, -5, -6, -3, -2, -4]
def okB (l : List Int) : Bool := (List.range 64).all fun i => manB (l.getD i 0) || l.getD i 0 == 0
theorem okB_at {l : List Int} (h : okB l = true) (i : Nat) (hi : i < 64) : manB (l.getD i 0) = true ∨ l.getD i 0 = 0 := by
  unfold okB at h
  rw [List.all_eq_true] at h
  simpa using h i (List.mem_range.2 hi)
theorem okB_yes {l : List Int} (h : ∀ i, i < 64 → manB (l.getD i 0) = true ∨ l.getD i 0 = 0) : okB l = true := by
  unfold okB
  rw [List.all_eq_true]
  intro i hi
  simpa using h i (List.mem_range.1 hi)
theorem manB_kind {x : Int} : manB x = true ↔ kindZ x ≠ 0 := by
  unfold manB kindZ
  rw [decide_eq_true_iff]
  split
  · omega
  · split <;> omega
def inB (x kind side : Int) : Bool := manB x && (sideZ x == side) && (kind == 0 || kindZ x == kind)
def cntK (l : List Int) (kind side : Int) (k : Nat) : Nat := ((List.range k).filter fun i => inB (l.getD i 0) kind side).length
def manyZ (l : List Int) (kind side : Int) : Nat := cntK l kind side 64
theorem cntK_zero (l : List Int) (kind side : Int) : cntK l kind side 0 = 0 := rfl
theorem cntK_suc (l : List Int) (kind side : Int) (k : Nat) : cntK l kind side (k + 1) = cntK l kind side k + (if inB (l.getD k 0) kind side = true then 1 else 0) := by
  unfold cntK
  rw [List.range_succ, List.filter_append, List.length_append]
  congr 1
  cases h : inB (l.getD k 0) kind side <;> rw [List.filter_cons] <;> simp only [h] <;> rfl
theorem cntK_le (l : List Int) (kind side : Int) (k : Nat) : cntK l kind side k ≤ k := by
  unfold cntK; exact Nat.le_trans (List.length_filter_le _ _) (by simp)
def rimAt (l : List Int) (i : Nat) : Prop := kindZ (l.getD i 0) = 1 ∧ ((i : Int) / 8 = 0 ∨ (i : Int) / 8 = 7)
instance (l : List Int) (i : Nat) : Decidable (rimAt l i) := by unfold rimAt; infer_instance
def rimB (l : List Int) : Bool := (List.range 64).any fun i => decide (rimAt l i)
theorem rimB_yes {l : List Int} (i : Nat) (hi : i < 64) (h : rimAt l i) : rimB l = true := by
  unfold rimB; rw [List.any_eq_true]; exact ⟨i, List.mem_range.2 hi, by simpa using h⟩
theorem rimB_no {l : List Int} (h : ∀ i, i < 64 → ¬ rimAt l i) : rimB l = false := by
  cases hb : rimB l with
  | false => rfl
  | true =>
    unfold rimB at hb; rw [List.any_eq_true] at hb
    obtain ⟨i, hi, h2⟩ := hb
    exact absurd (by simpa using h2) (h i (List.mem_range.1 hi))
def wrongZ (l : List Int) : Int :=
  if okB l = false then 5 else if manyZ l 6 0 ≠ 1 ∨ manyZ l 6 1 ≠ 1 then 6 else if rimB l = true then 7 else if 16 < manyZ l 0 0 ∨ 16 < manyZ l 0 1 then 8 else 0
end Go.Proofs.Ytpjocgebnodnoaa
