/- The law LexGoesOn of package lex, in plain words. -/
import Derived.Test.YtabbkeliknidgaaLg
import Derived.Test.YtabbkeliknidgaaLy
namespace Go.Proofs.Ytabbkeliknidgaa
open Go.RowKit
set_option linter.unusedVariables false
set_option linter.unusedSimpArgs false
theorem goes_1 (t : ByteArray) (ss : List ByteArray) (hp : apartB ss = true) (ht : t.size ≤ 100) (hn : ss.length ≤ 20) (hs : ∀ j, j < ss.length → (wd ss j).size ≤ 50) (hj : ∃ j, j < ss.length ∧ t.size < (wd ss j).size ∧ ((wd ss j).extract 0 t.size).toList = t.toList) :
    ∀ (d i k : Nat), i + d = ss.length → d + 20001 < k → (∀ j, j < i → ¬ (t.size < (wd ss j).size ∧ ((wd ss j).extract 0 t.size).toList = t.toList)) → i_alfillaw14_LexGoesOn.l1 k t ss i = some true := by
  intro d
  induction d with
  | zero =>
    intro i k hd hk hb
    obtain ⟨j, h1, h2, h3⟩ := hj
    exact absurd ⟨h2, h3⟩ (hb j (by omega))
  | succ d ih =>
    intro i k hd hk hb
    obtain ⟨k, rfl⟩ : ∃ m, k = m + 1 := ⟨k - 1, by omega⟩
    simp only [i_alfillaw14_LexGoesOn.l1]
    rw [if_pos (by omega), if_pos (by omega), Int.toNat_natCast, show nt ss i ByteArray.empty = wd ss i from rfl]
    have next : (∀ j, j < i + 1 → ¬ (t.size < (wd ss j).size ∧ ((wd ss j).extract 0 t.size).toList = t.toList)) → i_alfillaw14_LexGoesOn.l1 k t ss (wrap64 ((i : Int) + 1)) = some true := fun hb' => by
      rw [w64 (by omega) (by omega)]
      exact ih (i + 1) k (by omega) (by omega) hb'
    have stepb : ¬ (t.size < (wd ss i).size ∧ ((wd ss i).extract 0 t.size).toList = t.toList) → ∀ j, j < i + 1 → ¬ (t.size < (wd ss j).size ∧ ((wd ss j).extract 0 t.size).toList = t.toList) := fun hi j hj' => by
      rcases (show j < i ∨ j = i by omega) with h' | rfl
      · exact hb j h'
      · exact hi
    by_cases h : ((wd ss i).size : Int) > (t.size : Int)
    · rw [if_pos h, if_pos (by omega), if_pos (by omega)]
      by_cases he : ((wd ss i).extract 0 t.size).toList = t.toList
      · rw [if_pos he, (one_is (t := wd ss i) (a := 0) (ss := ss) (by have := hs i (by omega); omega) (by omega) (fun j hj => by have := hs j (by omega); omega) (k := k) (by omega)).1]
        simp only [Option.bind_some]
        rw [one_self hp (by omega)]
        simp
      · rw [if_neg he]
        exact next (stepb (fun hh => he hh.2))
    · rw [if_neg h]
      exact next (stepb (fun hh => by omega))
theorem goes_0 (t m : ByteArray) (ss : List ByteArray) (hp : apartB ss = true) (ht : t.size ≤ 100) (hm : m.size ≤ 100) (hn : ss.length ≤ 20) : ∀ (d i k : Nat), i + d = ss.length → d + 20030 < k → (∀ j, j < i → (wd ss j).size ≤ 50) → i_alfillaw14_LexGoesOn.l0 k t m ss i = some true := by
  intro d
  induction d with
  | zero =>
    intro i k hd hk hb
    obtain ⟨k, rfl⟩ : ∃ m, k = m + 1 := ⟨k - 1, by omega⟩
    have hs : ∀ j, j < ss.length → (wd ss j).size ≤ 50 := fun j hj => hb j (by omega)
    simp only [i_alfillaw14_LexGoesOn.l0]
    rw [if_neg (by omega), (one_is (t := t) (a := 0) (ss := ss) (by omega) (by omega) (fun j hj => by have := hs j hj; omega) (k := k) (by omega)).1]
    have e2 := (one_is (t := t ++ m) (a := 0) (ss := ss) (by rw [size_app]; omega) (by omega) (fun j hj => by have := hs j hj; omega) (k := k) (by omega)).1
    simp only [Option.bind_some]
    rcases one_kinds' (t := t) hp with h0 | h1 | h2
    · rw [e2, one_goes m hp (.inr h0)]
      simp [h0, show t.size + m.size ≤ 9223372036854775807 by omega]
    · have e1 := goes_1 t ss hp ht hn hs (one_ends hp h1) ss.length 0 k (by omega) (by omega) (fun j hj => by omega)
      simp only [Int.natCast_zero] at e1
      simp [h1, e1]
    · rw [e2, one_goes m hp (.inl h2)]
      simp [h2, show t.size + m.size ≤ 9223372036854775807 by omega]
  | succ d ih =>
    intro i k hd hk hb
    obtain ⟨k, rfl⟩ : ∃ m, k = m + 1 := ⟨k - 1, by omega⟩
    simp only [i_alfillaw14_LexGoesOn.l0]
    rw [if_pos (by omega), if_pos (by omega), Int.toNat_natCast, show nt ss i ByteArray.empty = wd ss i from rfl]
    by_cases h : ((wd ss i).size : Int) > 50
    · rw [if_pos h]
    · rw [if_neg h, w64 (by omega) (by omega)]
      refine ih (i + 1) k (by omega) (by omega) (fun j hj => ?_)
      rcases (show j < i ∨ j = i by omega) with h' | rfl
      · exact hb j h'
      · omega
theorem goes_is (t m : ByteArray) (ss : List ByteArray) : i_alfillaw14_LexGoesOn.f 30000 t m ss = some true := by
  unfold i_alfillaw14_LexGoesOn.f
  rw [wakes_is (by decide)]
  simp only [Option.bind_some, if_true]
  by_cases h : (t.size : Int) > 100
  · rw [if_pos h]
  · rw [if_neg h]
    by_cases hm : (m.size : Int) > 100
    · rw [if_pos hm]
    · rw [if_neg hm]
      by_cases h2 : (ss.length : Int) > 20
      · rw [if_pos h2]
      · rw [if_neg h2, (apart_is (ss := ss) (by omega) (k := 30000) (by omega)).2]
        simp only [Option.bind_some]
        by_cases hp : apartB ss = true
        · rw [if_pos hp]
          exact goes_0 t m ss hp (by omega) (by omega) (by omega) ss.length 0 30000 (by omega) (by omega) (fun j hj => by omega)
        · rw [if_neg hp]
theorem walk_LexGoesOn (t m : ByteArray) (v : Value) (ss : List ByteArray) (ht : t.size ≤ maxLen) (hm : m.size ≤ maxLen) (w : World) (h : Sl w v (ss.map Value.string)) :
    Calls Try.prog 5 #[.string t, .string m, v] w fun e w' => e = .returned (.bool true) ∧ Below w.heap.size w w' :=
  i_alfillaw14_LexGoesOn.calls 30000 t m v ss true w h (goes_is t m ss)
end Go.Proofs.Ytabbkeliknidgaa
