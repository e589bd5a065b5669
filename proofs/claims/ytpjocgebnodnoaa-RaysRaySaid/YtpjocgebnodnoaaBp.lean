/- Plain words on boards: a board turned; the first one. -/
import Derived.Test.YtpjocgebnodnoaaMp
namespace Go.Proofs.Ytpjocgebnodnoaa
open Go.RowKit
def neg8 (x : Int) : Int := IntKind.wrap .i8 (-x)
def flipN (s : Nat) : Nat := 8 * (7 - s / 8) + s % 8
theorem flipN_lt {s : Nat} (h : s < 64) : flipN s < 64 := by unfold flipN; omega
theorem flipN_flip {s : Nat} (h : s < 64) : flipN (flipN s) = s := by unfold flipN; omega
theorem flipN_Z {s : Nat} (h : s < 64) : flipZ (s : Int) = (flipN s : Nat) := by unfold flipZ flipN; rw [if_pos (by omega)]; omega
/-- a board turned, as far as its first k squares are. -/
def turnK (l : List Int) (k : Nat) : List Int := (List.range 64).map fun j => if flipN j < k then neg8 (l.getD (flipN j) 0) else 0
def turnL (l : List Int) : List Int := (List.range 64).map fun j => neg8 (l.getD (flipN j) 0)
theorem turnK_len (l : List Int) (k : Nat) : (turnK l k).length = 64 := by unfold turnK; simp
theorem turnL_len (l : List Int) : (turnL l).length = 64 := by unfold turnL; simp
theorem turnK_zero (l : List Int) : turnK l 0 = List.replicate 64 0 := by unfold turnK; simp; decide
theorem turnK_all (l : List Int) : turnK l 64 = turnL l := by
  unfold turnK turnL
  apply List.map_congr_left
  intro j hj
  rw [if_pos (flipN_lt (List.mem_range.1 hj))]
theorem turnK_step (l : List Int) {k : Nat} (hk : k < 64) : (turnK l k).set (flipN k) (neg8 (l.getD k 0)) = turnK l (k + 1) := by
  apply List.ext_getElem?
  intro j
  by_cases hj : j < 64
  · have h1 : (turnK l k)[j]? = some (if flipN j < k then neg8 (l.getD (flipN j) 0) else 0) := by unfold turnK; simp [hj]
    have h2 : (turnK l (k + 1))[j]? = some (if flipN j < k + 1 then neg8 (l.getD (flipN j) 0) else 0) := by unfold turnK; simp [hj]
    rw [List.getElem?_set, h2]
    by_cases e : flipN k = j
    · rw [if_pos e, if_pos (by rw [turnK_len]; exact flipN_lt hk)]
      subst e
      rw [flipN_flip hk, if_pos (by omega)]
    · rw [if_neg e, h1]
      have : flipN j ≠ k := fun h => e (by rw [← h, flipN_flip hj])
      by_cases h3 : flipN j < k
      · rw [if_pos h3, if_pos (by omega)]
      · rw [if_neg h3, if_neg (by omega)]
  · rw [List.getElem?_eq_none (by rw [List.length_set, turnK_len]; omega), List.getElem?_eq_none (by rw [turnK_len]; omega)]
def backL : List Int := [4, 2, 3, 5, 6, 3, 2, 4]
def firstH (k : Nat) : List Int := (List.range 64).map fun j => if j < k then backL.getD j 0 else if 8 ≤ j ∧ j < 8 + k then 1 else 0
theorem firstH_step : ∀ k : Fin 8, ((firstH k.val).set k.val (backL.getD k.val 0)).set (8 + k.val) 1 = firstH (k.val + 1) := by decide +kernel
theorem firstH_len (k : Nat) : (firstH k).length = 64 := by unfold firstH; simp
theorem firstH_zero : firstH 0 = List.replicate 64 0 := by decide +kernel
def halfL : List Int := turnL (firstH 8)
def mergeK (k : Nat) : List Int := (List.range 64).map fun j => if j < k ∧ halfL.getD j 0 ≠ 0 then halfL.getD j 0 else (firstH 8).getD j 0
theorem mergeK_len (k : Nat) : (mergeK k).length = 64 := by unfold mergeK; simp
theorem mergeK_zero : mergeK 0 = firstH 8 := by decide +kernel
theorem mergeK_step : ∀ k : Fin 64, (halfL.getD k.val 0 ≠ 0 → (mergeK k.val).set k.val (halfL.getD k.val 0) = mergeK (k.val + 1)) ∧ (halfL.getD k.val 0 = 0 → mergeK k.val = mergeK (k.val + 1)) := by decide +kernel
/-- the board with which a game begins. -/
def firstL : List Int := [4, 2, 3, 5, 6, 3, 2, 4, 1, 1, 1, 1, 1, 1, 1, 1, 0, 0, 0, 0, 0, 0, 0, 0, 0, 0, 0, 0, 0, 0, 0, 0, 0, 0, 0, 0, 0, 0, 0, 0, 0, 0, 0, 0, 0, 0, 0, 0, -1, -1, -1, -1, -1, -1, -1, -1, -4, -2, -3, -5, -6, -3, -2, -4]
theorem mergeK_all : mergeK 64 = firstL := by decide +kernel
/-- may a board be one? -/
def okB (l : List Int) : Bool := (List.range 64).all fun i => manB (l.getD i 0) || l.getD i 0 == 0
theorem okB_at {l : List Int} (h : okB l = true) (i : Nat) (hi : i < 64) : manB (l.getD i 0) = true ∨ l.getD i 0 = 0 := by
  unfold okB at h
  rw [List.all_eq_true] at h
  simpa using h i (List.mem_range.2 hi)
theorem okB_yes {l : List Int} (h : ∀ i, i < 64 → manB (l.getD i 0) = true ∨ l.getD i 0 = 0) : okB l = true := by
  unfold okB
  rw [List.all_eq_true]
  intro i hi
  simpa using h i (List.mem_range.1 hi)
theorem okB_no {l : List Int} (i : Nat) (hi : i < 64) (h : manB (l.getD i 0) = false) (h0 : l.getD i 0 ≠ 0) : okB l = false := by
  cases hb : okB l with
  | false => rfl
  | true => rcases okB_at hb i hi with h' | h'
            · rw [h] at h'; cases h'
            · exact absurd h' h0
theorem manB_kind {x : Int} : manB x = true ↔ kindZ x ≠ 0 := by
  unfold manB kindZ
  rw [decide_eq_true_iff]
  split
  · omega
  · split <;> omega
/-- is x a man of a kind (0: any) and a side? -/
def inB (x kind side : Int) : Bool := manB x && (sideZ x == side) && (kind == 0 || kindZ x == kind)
def cntK (l : List Int) (kind side : Int) (k : Nat) : Nat := ((List.range k).filter fun i => inB (l.getD i 0) kind side).length
def manyZ (l : List Int) (kind side : Int) : Nat := cntK l kind side 64
theorem cntK_zero (l : List Int) (kind side : Int) : cntK l kind side 0 = 0 := rfl
theorem cntK_suc (l : List Int) (kind side : Int) (k : Nat) : cntK l kind side (k + 1) = cntK l kind side k + (if inB (l.getD k 0) kind side = true then 1 else 0) := by
  unfold cntK
  rw [List.range_succ, List.filter_append, List.length_append]
  congr 1
  cases h : inB (l.getD k 0) kind side <;> rw [List.filter_cons] <;> simp only [h] <;> rfl
theorem cntK_le (l : List Int) (kind side : Int) (k : Nat) : cntK l kind side k ≤ k := by
  unfold cntK; exact Nat.le_trans (List.length_filter_le _ _) (by simp)
/-- does a pawn stand on a rim? -/
def rimAt (l : List Int) (i : Nat) : Prop := kindZ (l.getD i 0) = 1 ∧ ((i : Int) / 8 = 0 ∨ (i : Int) / 8 = 7)
instance (l : List Int) (i : Nat) : Decidable (rimAt l i) := by unfold rimAt; infer_instance
def rimB (l : List Int) : Bool := (List.range 64).any fun i => decide (rimAt l i)
theorem rimB_yes {l : List Int} (i : Nat) (hi : i < 64) (h : rimAt l i) : rimB l = true := by
  unfold rimB; rw [List.any_eq_true]; exact ⟨i, List.mem_range.2 hi, by simpa using h⟩
theorem rimB_no {l : List Int} (h : ∀ i, i < 64 → ¬ rimAt l i) : rimB l = false := by
  cases hb : rimB l with
  | false => rfl
  | true =>
    unfold rimB at hb; rw [List.any_eq_true] at hb
    obtain ⟨i, hi, h2⟩ := hb
    exact absurd (by simpa using h2) (h i (List.mem_range.1 hi))
/-- what a board lacks. -/
def wrongZ (l : List Int) : Int :=
  if okB l = false then 5 else if manyZ l 6 0 ≠ 1 ∨ manyZ l 6 1 ≠ 1 then 6 else if rimB l = true then 7 else if 16 < manyZ l 0 0 ∨ 16 < manyZ l 0 1 then 8 else 0
end Go.Proofs.Ytpjocgebnodnoaa
