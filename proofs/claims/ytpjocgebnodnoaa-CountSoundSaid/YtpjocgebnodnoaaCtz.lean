import Derived.Test.YtpjocgebnodnoaaCsz
namespace Go.Proofs.Ytpjocgebnodnoaa
open Go.RowKit
set_option linter.unusedVariables false
set_option linter.unusedSimpArgs false
def rimF (l : List Int) (i : Nat) : Bool := decide (rimAt l i)
theorem rimB_eq (l : List Int) : rimB l = (List.range' 0 64).any (rimF l) := by rw [range_zero]; rfl
theorem qRim_l {l : List Int} (h : B8 l) : ∀ (d i k : Nat), i + d = 64 → d < k → i_board_rim.l0 k l i = some ((List.range' i d).any (rimF l)) := by
  intro d
  induction d with
  | zero => intro i k hi hk; obtain ⟨k, rfl⟩ : ∃ j, k = j + 1 := ⟨k - 1, by omega⟩; rw [i_board_rim.l0, if_neg (by omega)]; rfl
  | succ d ih =>
    intro i k hi hk
    obtain ⟨k, rfl⟩ : ∃ j, k = j + 1 := ⟨k - 1, by omega⟩
    have hs : wrap64 ((i : Int) + 1) = ((i + 1 : Nat) : Int) := by rw [q64 (by omega) (by omega)]; rfl
    rw [i_board_rim.l0, if_pos (by omega), if_pos (by omega), Int.toNat_natCast, nt_w h, qRank (by omega) (by omega), Option.bind_some, qmKind, Option.bind_some, hs, ih (i + 1) k (by omega) (by omega), range_cons, List.any_cons]
    have hr : rimF l i = decide (kindZ (nt l i 0) = 1 ∧ ((i : Int) / 8 = 0 ∨ (i : Int) / 8 = 7)) := rfl
    rw [hr]
    by_cases h0 : kindZ (nt l i 0) = 1
    · rw [if_pos h0]
      by_cases h1 : (i : Int) / 8 = 0
      · rw [if_pos h1, decide_eq_true ⟨h0, Or.inl h1⟩]; rfl
      · rw [if_neg h1]
        by_cases h2 : (i : Int) / 8 = 7
        · rw [if_pos h2, decide_eq_true ⟨h0, Or.inr h2⟩]; rfl
        · rw [if_neg h2, decide_eq_false (fun hh => hh.2.elim h1 h2)]; rfl
    · rw [if_neg h0, decide_eq_false (fun hh => h0 hh.1)]; rfl
theorem qRim {l : List Int} (h : B8 l) {k : Nat} (hk : 64 < k) : i_board_rim.f k l = some (rimB l) := by
  rw [i_board_rim.f, rimB_eq]; exact qRim_l h 64 0 k rfl hk
theorem zL_many0 : manyZ zL 6 0 = 0 ∧ okB zL = true := by decide +kernel
theorem qWrong {l : List Int} (h : B8 l) {k : Nat} (hk : 64 < k) : i_board_Wrong.f k l = some (wrongZ l) := by
  rw [i_board_Wrong.f, qbRight h hk, Option.bind_some]
  unfold wrongZ
  cases ho : okB l with
  | false => rw [if_neg (by simp), if_pos rfl]
  | true =>
    rw [if_pos rfl, if_neg (show ¬ (true = false) by simp)]
    by_cases hz : l = zL
    · rw [if_pos hz, hz, if_pos (Or.inl (by rw [zL_many0.1]; omega))]
    · rw [if_neg hz, qbMany h 6 0 hk, Option.bind_some]
      by_cases h1 : manyZ l 6 0 = 1
      · rw [if_pos (by omega), qbMany h 6 1 hk, Option.bind_some]
        by_cases h2 : manyZ l 6 1 = 1
        · rw [if_pos (by omega), qRim h hk, Option.bind_some, if_neg (show ¬ (manyZ l 6 0 ≠ 1 ∨ manyZ l 6 1 ≠ 1) by omega)]
          cases hr : rimB l with
          | true => rw [if_pos rfl, if_pos rfl]
          | false =>
            rw [if_neg (show ¬ (false = true) by simp), if_neg (show ¬ (false = true) by simp), qbMany h 0 0 hk, Option.bind_some]
            by_cases h3 : 16 < manyZ l 0 0
            · rw [if_pos (by omega), if_pos (Or.inl h3)]
            · rw [if_neg (by omega), qbMany h 0 1 hk, Option.bind_some]
              by_cases h4 : 16 < manyZ l 0 1
              · rw [if_pos (by omega), if_pos (Or.inr h4)]
              · rw [if_neg (by omega), if_neg (by omega)]
        · rw [if_neg (by omega), if_pos (Or.inr h2)]
      · rw [if_neg (by omega), if_pos (Or.inl h1)]
end Go.Proofs.Ytpjocgebnodnoaa
