import Derived.WalkKit
import Derived.Laws.Cover4
namespace Go.Proofs.Ytpjocgebnodnoaa
open Go.RowKit
theorem hid {p : Prop} (h : p) : Hid p := h
def findZ (f r : Int) : Int := if 0 ≤ f ∧ f < 8 ∧ 0 ≤ r ∧ r < 8 then 8 * r + f else -1
theorem findZ_in {f r : Int} (h0 : 0 ≤ f) (h1 : f < 8) (h2 : 0 ≤ r) (h3 : r < 8) : findZ f r = 8 * r + f := by unfold findZ; rw [if_pos ⟨h0, h1, h2, h3⟩]
theorem findZ_out {f r : Int} (h : ¬ (0 ≤ f ∧ f < 8 ∧ 0 ≤ r ∧ r < 8)) : findZ f r = -1 := by unfold findZ; rw [if_neg h]
theorem findZ_cases (f r : Int) : findZ f r = -1 ∨ (0 ≤ findZ f r ∧ findZ f r < 64) := by unfold findZ; split <;> omega
theorem findZ_hit {k f r : Int} (h0 : 0 ≤ k) (h1 : k < 64) (hf : k % 8 = f) (hr : k / 8 = r) : findZ f r = k := by unfold findZ; split <;> omega
theorem findZ_miss {k f r : Int} (h : findZ f r = -1 ∨ k ≤ findZ f r) (hn : ¬ (k % 8 = f ∧ k / 8 = r)) : findZ f r = -1 ∨ k + 1 ≤ findZ f r := by
  unfold findZ at *; split at h <;> rename_i hc
  · rw [if_pos hc] at *; omega
  · rw [if_neg hc]; omega
theorem findZ_done {f r : Int} (h : findZ f r = -1 ∨ 64 ≤ findZ f r) : findZ f r = -1 := by have := findZ_cases f r; omega
def stepZ (s f r : Int) : Int := if 0 ≤ s ∧ s < 64 then findZ (s % 8 + f) (s / 8 + r) else -1
theorem stepZ_in {s f r : Int} (h0 : 0 ≤ s) (h1 : s < 64) : stepZ s f r = findZ (s % 8 + f) (s / 8 + r) := by unfold stepZ; rw [if_pos ⟨h0, h1⟩]
theorem stepZ_out {s f r : Int} (h : ¬ (0 ≤ s ∧ s < 64)) : stepZ s f r = -1 := by unfold stepZ; rw [if_neg h]
theorem stepZ_cases (s f r : Int) : stepZ s f r = -1 ∨ (0 ≤ stepZ s f r ∧ stepZ s f r < 64) := by unfold stepZ; split; exact findZ_cases _ _; omega
def distZ (a b : Int) : Int := if a < b then b - a else a - b
def bt (t : ByteArray) (i : Nat) : Int := ((t.data.toList.getD i 0).toNat : Int)
end Go.Proofs.Ytpjocgebnodnoaa
