/- All right stipulations, tried by the kernel. -/
import Derived.Test.YtabbkeliknidgaaDoorS6w
import Derived.Test.YtabbkeliknidgaaDoorSr
import Derived.Test.YtabbkeliknidgaaDoorSz
namespace Go.Proofs.YtabbkeliknidgaaDoor
open Go.RowKit
set_option linter.unusedVariables false
set_option linter.unusedSimpArgs false
set_option maxRecDepth 100000
theorem sx_wakes : i_alfillaw15_wakes.f 30000 = some true := by decide +kernel
theorem all_parts {p : Nat → Nat → Nat → Bool → Bool}
    (h0 : ((List.range 9).all fun k => (List.range 3).all fun g => (List.range' 0 13).all fun n => [true, false].all fun h => p k g n h) = true)
    (h1 : ((List.range 9).all fun k => (List.range 3).all fun g => (List.range' 13 13).all fun n => [true, false].all fun h => p k g n h) = true)
    (h2 : ((List.range 9).all fun k => (List.range 3).all fun g => (List.range' 26 13).all fun n => [true, false].all fun h => p k g n h) = true)
    (h3 : ((List.range 9).all fun k => (List.range 3).all fun g => (List.range' 39 13).all fun n => [true, false].all fun h => p k g n h) = true)
    (h4 : ((List.range 9).all fun k => (List.range 3).all fun g => (List.range' 52 13).all fun n => [true, false].all fun h => p k g n h) = true) :
    ((List.range 9).all fun k => (List.range 3).all fun g => (List.range 65).all fun n => [true, false].all fun h => p k g n h) = true := by
  simp only [List.all_eq_true, List.mem_range, List.mem_range'_1] at *
  intro k hk g hg n hn h hh
  rcases (show n < 13 ∨ (13 ≤ n ∧ n < 26) ∨ (26 ≤ n ∧ n < 39) ∨ (39 ≤ n ∧ n < 52) ∨ 52 ≤ n by omega) with c | c | c | c | c
  · exact h0 k hk g hg n (by omega) h hh
  · exact h1 k hk g hg n (by omega) h hh
  · exact h2 k hk g hg n (by omega) h hh
  · exact h3 k hk g hg n (by omega) h hh
  · exact h4 k hk g hg n (by omega) h hh
theorem sx_writes0 : ((List.range 9).all fun k => (List.range 3).all fun g => (List.range' 0 13).all fun n => [true, false].all fun h => i_alfillaw15_StipWrites.f 30000 k g n h == some true) = true := by decide +kernel
theorem sx_writes1 : ((List.range 9).all fun k => (List.range 3).all fun g => (List.range' 13 13).all fun n => [true, false].all fun h => i_alfillaw15_StipWrites.f 30000 k g n h == some true) = true := by decide +kernel
theorem sx_writes2 : ((List.range 9).all fun k => (List.range 3).all fun g => (List.range' 26 13).all fun n => [true, false].all fun h => i_alfillaw15_StipWrites.f 30000 k g n h == some true) = true := by decide +kernel
theorem sx_writes3 : ((List.range 9).all fun k => (List.range 3).all fun g => (List.range' 39 13).all fun n => [true, false].all fun h => i_alfillaw15_StipWrites.f 30000 k g n h == some true) = true := by decide +kernel
theorem sx_writes4 : ((List.range 9).all fun k => (List.range 3).all fun g => (List.range' 52 13).all fun n => [true, false].all fun h => i_alfillaw15_StipWrites.f 30000 k g n h == some true) = true := by decide +kernel
theorem sx_writes : ((List.range 9).all fun k => (List.range 3).all fun g => (List.range 65).all fun n => [true, false].all fun h => i_alfillaw15_StipWrites.f 30000 k g n h == some true) = true := all_parts sx_writes0 sx_writes1 sx_writes2 sx_writes3 sx_writes4
/-- what is right, written and cut off. -/
def cutA (k g n : Int) (h : Bool) : Bool :=
  match i_stip_Write.f k g n h with
  | some (t, true) => decide (0 < t.size) && decide (t.size ≤ 100) && (List.range t.size).all fun j => match stipF (t.extract 0 j) (oneF (t.extract 0 j) 0 wordsL 15 0) with | (_, _, _, _, at_, _, e) => decide (e ≠ 2) && (decide (e ≠ 1) || decide (at_ = j))
  | some (_, false) => !rightZ k g n h
  | none => false
theorem cutA_all0 : ((List.range 9).all fun k => (List.range 3).all fun g => (List.range' 0 13).all fun n => [true, false].all fun h => cutA k g n h) = true := by decide +kernel
theorem cutA_all1 : ((List.range 9).all fun k => (List.range 3).all fun g => (List.range' 13 13).all fun n => [true, false].all fun h => cutA k g n h) = true := by decide +kernel
theorem cutA_all2 : ((List.range 9).all fun k => (List.range 3).all fun g => (List.range' 26 13).all fun n => [true, false].all fun h => cutA k g n h) = true := by decide +kernel
theorem cutA_all3 : ((List.range 9).all fun k => (List.range 3).all fun g => (List.range' 39 13).all fun n => [true, false].all fun h => cutA k g n h) = true := by decide +kernel
theorem cutA_all4 : ((List.range 9).all fun k => (List.range 3).all fun g => (List.range' 52 13).all fun n => [true, false].all fun h => cutA k g n h) = true := by decide +kernel
theorem cutA_all : ((List.range 9).all fun k => (List.range 3).all fun g => (List.range 65).all fun n => [true, false].all fun h => cutA k g n h) = true := all_parts cutA_all0 cutA_all1 cutA_all2 cutA_all3 cutA_all4
/-- how its text is read. -/
def cutB (k g n : Int) (h : Bool) : Bool :=
  match i_stip_Write.f k g n h with
  | some (t, true) =>
    let x := oneF t 0 wordsL 15 0
    let s := nt stipsL x.2.1.toNat (0, 0, 0, false)
    decide (x.2.2 = 0) && decide (s.1 = k) && decide (s.2.1 = g) && decide (s.2.2.2 = false) &&
    (if k = 5 then
      let m := numZ t x.1 0 64
      decide (m.2.2 = 0) && decide (m.2.1 = n) && (if h then decide (m.1 < t.size) && decide (0 ≤ m.1) && decide (bt t m.1.toNat = 46) && decide (wordZ t m.1 dotFive = ((t.size : Int), 0, 0)) else decide (m.1 = t.size) && decide (n ≠ 0))
    else !h && decide (numZ t x.1 1 64 = ((t.size : Int), n, 0)))
  | _ => true
theorem cutB_all0 : ((List.range 9).all fun k => (List.range 3).all fun g => (List.range' 0 13).all fun n => [true, false].all fun h => cutB k g n h) = true := by decide +kernel
theorem cutB_all1 : ((List.range 9).all fun k => (List.range 3).all fun g => (List.range' 13 13).all fun n => [true, false].all fun h => cutB k g n h) = true := by decide +kernel
theorem cutB_all2 : ((List.range 9).all fun k => (List.range 3).all fun g => (List.range' 26 13).all fun n => [true, false].all fun h => cutB k g n h) = true := by decide +kernel
theorem cutB_all3 : ((List.range 9).all fun k => (List.range 3).all fun g => (List.range' 39 13).all fun n => [true, false].all fun h => cutB k g n h) = true := by decide +kernel
theorem cutB_all4 : ((List.range 9).all fun k => (List.range 3).all fun g => (List.range' 52 13).all fun n => [true, false].all fun h => cutB k g n h) = true := by decide +kernel
theorem cutB_all : ((List.range 9).all fun k => (List.range 3).all fun g => (List.range 65).all fun n => [true, false].all fun h => cutB k g n h) = true := all_parts cutB_all0 cutB_all1 cutB_all2 cutB_all3 cutB_all4
end Go.Proofs.YtabbkeliknidgaaDoor
