/- Laws of package lex, in plain words. -/
import Derived.Test.YtabbkeliknidgaaLnn
import Derived.Test.YtabbkeliknidgaaL4w
namespace Go.Proofs.Ytabbkeliknidgaa
open Go.RowKit
set_option linter.unusedVariables false
set_option linter.unusedSimpArgs false
theorem eq3 {a b c : Int} : (((a == a) && ((b == b) && (c == c))) = true) := by simp
theorem wakes_is {k : Nat} (hk : 20000 < k) : i_alfillaw14_wakes.f k = some true := by
  unfold i_alfillaw14_wakes.f
  rw [(num_is (t := ⟨#[54, 53]⟩) (a := 0) (least := 1) (most := 64) (by decide) (k := k) (by show 2 < k; omega)).1, show numZ ⟨#[54, 53]⟩ 0 1 64 = (1, 0, 2) by decide +kernel]
  simp only [Option.bind_some]
  rw [if_pos (by decide)]
  rw [(one_is (t := ⟨#[99, 97, 114]⟩) (a := 0) (ss := [⟨#[99, 97, 116]⟩, ⟨#[99, 111, 119]⟩]) (by decide) (by decide) (by decide) (k := k) hk).1, show oneZ ⟨#[99, 97, 114]⟩ 0 [⟨#[99, 97, 116]⟩, ⟨#[99, 111, 119]⟩] = (2, 0, 2) by decide +kernel]
  simp only [Option.bind_some]
  rw [if_pos (by decide)]
theorem words_l (t : ByteArray) (a : Int) (ss : List ByteArray) (ht : t.size ≤ 200) (hn : ss.length ≤ 20) : ∀ (d i k : Nat), i + d = ss.length → d + 20001 < k → (∀ j, j < i → (wd ss j).size ≤ 50) → i_alfillaw14_LexWords.l0 k t a ss i = some true := by
  intro d
  induction d with
  | zero =>
    intro i k hd hk hp
    obtain ⟨k, rfl⟩ : ∃ m, k = m + 1 := ⟨k - 1, by omega⟩
    simp only [i_alfillaw14_LexWords.l0]
    obtain ⟨A, B⟩ := one_is (t := t) (a := a) (ss := ss) (by omega) (by omega) (fun j hj => by have := hp j (by omega); omega) (k := k) (by omega)
    rw [if_neg (by omega), A, B]
    simp only [Option.bind_some]
    rw [if_pos eq3]
  | succ d ih =>
    intro i k hd hk hp
    obtain ⟨k, rfl⟩ : ∃ m, k = m + 1 := ⟨k - 1, by omega⟩
    simp only [i_alfillaw14_LexWords.l0]
    rw [if_pos (by omega), if_pos (by omega), Int.toNat_natCast, show nt ss i ByteArray.empty = wd ss i from rfl]
    by_cases h : ((wd ss i).size : Int) > 50
    · rw [if_pos h]
    · rw [if_neg h, word_is (by omega) (by omega) (by omega), rword_is (by omega) (by omega) (by omega)]
      simp only [Option.bind_some]
      rw [if_pos eq3, w64 (by omega) (by omega)]
      refine ih (i + 1) k (by omega) (by omega) (fun j hj => ?_)
      rcases (show j < i ∨ j = i by omega) with h' | rfl
      · exact hp j h'
      · omega
theorem words_is (t : ByteArray) (a : Int) (ss : List ByteArray) : i_alfillaw14_LexWords.f 30000 t a ss = some true := by
  unfold i_alfillaw14_LexWords.f
  rw [wakes_is (by decide)]
  simp only [Option.bind_some, if_true]
  by_cases h : (t.size : Int) > 200
  · rw [if_pos h]
  · rw [if_neg h]
    by_cases h2 : (ss.length : Int) > 20
    · rw [if_pos h2]
    · rw [if_neg h2]
      exact words_l t a ss (by omega) (by omega) ss.length 0 30000 (by omega) (by omega) (fun j hj => by omega)
theorem numbers_is (t : ByteArray) (a : Int) (l : List Int) : i_alfillaw14_LexNumbers.f 30000 t a l = some true := by
  unfold i_alfillaw14_LexNumbers.f
  rw [wakes_is (by decide)]
  simp only [Option.bind_some, if_true]
  by_cases h : (t.size : Int) > 200
  · rw [if_pos h]
  · rw [if_neg h]
    obtain ⟨A, B⟩ := num_is (t := t) (a := a) (least := nt l 0 0) (most := nt l 1 0) (by omega) (k := 30000) (by omega)
    rw [A, B]
    simp only [Option.bind_some]
    rw [if_pos eq3]
theorem walk_LexWords (t : ByteArray) (a : Int) (v : Value) (ss : List ByteArray) (ht : t.size ≤ maxLen) (w : World) (h : Sl w v (ss.map Value.string)) :
    Calls Try.prog 3 #[.string t, .int .i64 a, v] w fun e w' => e = .returned (.bool true) ∧ Below w.heap.size w w' :=
  i_alfillaw14_LexWords.calls 30000 t a v ss true w h (words_is t a ss)
theorem walk_LexNumbers (t : ByteArray) (a : Int) (l : List Int) (ht : t.size ≤ maxLen) (hl : l.length = 2) (w : World) :
    Calls Try.prog 4 #[.string t, .int .i64 a, .agg (av (Value.int .i64) l)] w fun e w' => e = .returned (.bool true) ∧ Below w.heap.size w w' :=
  i_alfillaw14_LexNumbers.calls 30000 t a l hl true w (numbers_is t a l)
end Go.Proofs.Ytabbkeliknidgaa
