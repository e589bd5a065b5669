/- Plain words on counting, the fourth: what a board lacks; why it is illegal, over the least takings. -/
import Derived.Test.YtpjocgebnodnoaaCs
namespace Go.Proofs.Ytpjocgebnodnoaa
open Go.RowKit
set_option linter.unusedVariables false
set_option linter.unusedSimpArgs false
theorem kind_one {x : Int} : kindZ x = 1 ↔ x = 1 ∨ x = -1 := by unfold kindZ; split <;> (try split) <;> omega
def rimF (l : List Int) (i : Nat) : Bool := decide (rimAt l i)
theorem rimB_eq (l : List Int) : rimB l = (List.range' 0 64).any (rimF l) := by rw [range_zero]; rfl
theorem qRim_l {l : List Int} (h : B8 l) : ∀ (d i k : Nat), i + d = 64 → d < k → i_board_rim.l0 k l i = some ((List.range' i d).any (rimF l)) := by
  intro d
  induction d with
  | zero => intro i k hi hk; obtain ⟨k, rfl⟩ : ∃ j, k = j + 1 := ⟨k - 1, by omega⟩; rw [i_board_rim.l0, if_neg (by omega)]; rfl
  | succ d ih =>
    intro i k hi hk
    obtain ⟨k, rfl⟩ : ∃ j, k = j + 1 := ⟨k - 1, by omega⟩
    have hs : wrap64 ((i : Int) + 1) = ((i + 1 : Nat) : Int) := by rw [q64 (by omega) (by omega)]; rfl
    rw [i_board_rim.l0, if_pos (by omega), if_pos (by omega), Int.toNat_natCast, nt_w h, qRank (by omega) (by omega), Option.bind_some, qmKind, Option.bind_some, hs, ih (i + 1) k (by omega) (by omega), range_cons, List.any_cons]
    have hr : rimF l i = decide (kindZ (nt l i 0) = 1 ∧ ((i : Int) / 8 = 0 ∨ (i : Int) / 8 = 7)) := rfl
    rw [hr]
    by_cases h0 : kindZ (nt l i 0) = 1
    · rw [if_pos h0]
      by_cases h1 : (i : Int) / 8 = 0
      · rw [if_pos h1, decide_eq_true ⟨h0, Or.inl h1⟩]; rfl
      · rw [if_neg h1]
        by_cases h2 : (i : Int) / 8 = 7
        · rw [if_pos h2, decide_eq_true ⟨h0, Or.inr h2⟩]; rfl
        · rw [if_neg h2, decide_eq_false (fun hh => hh.2.elim h1 h2)]; rfl
    · rw [if_neg h0, decide_eq_false (fun hh => h0 hh.1)]; rfl
theorem qRim {l : List Int} (h : B8 l) {k : Nat} (hk : 64 < k) : i_board_rim.f k l = some (rimB l) := by
  rw [i_board_rim.f, rimB_eq]; exact qRim_l h 64 0 k rfl hk
theorem zL_many0 : manyZ zL 6 0 = 0 ∧ okB zL = true := by decide +kernel
theorem qWrong {l : List Int} (h : B8 l) {k : Nat} (hk : 64 < k) : i_board_Wrong.f k l = some (wrongZ l) := by
  rw [i_board_Wrong.f, qbRight h hk, Option.bind_some]
  unfold wrongZ
  cases ho : okB l with
  | false => rw [if_neg (by simp), if_pos rfl]
  | true =>
    rw [if_pos rfl, if_neg (show ¬ (true = false) by simp)]
    by_cases hz : l = zL
    · rw [if_pos hz, hz, if_pos (Or.inl (by rw [zL_many0.1]; omega))]
    · rw [if_neg hz, qbMany h 6 0 hk, Option.bind_some]
      by_cases h1 : manyZ l 6 0 = 1
      · rw [if_pos (by omega), qbMany h 6 1 hk, Option.bind_some]
        by_cases h2 : manyZ l 6 1 = 1
        · rw [if_pos (by omega), qRim h hk, Option.bind_some, if_neg (show ¬ (manyZ l 6 0 ≠ 1 ∨ manyZ l 6 1 ≠ 1) by omega)]
          cases hr : rimB l with
          | true => rw [if_pos rfl, if_pos rfl]
          | false =>
            rw [if_neg (show ¬ (false = true) by simp), if_neg (show ¬ (false = true) by simp), qbMany h 0 0 hk, Option.bind_some]
            by_cases h3 : 16 < manyZ l 0 0
            · rw [if_pos (by omega), if_pos (Or.inl h3)]
            · rw [if_neg (by omega), qbMany h 0 1 hk, Option.bind_some]
              by_cases h4 : 16 < manyZ l 0 1
              · rw [if_pos (by omega), if_pos (Or.inr h4)]
              · rw [if_neg (by omega), if_neg (by omega)]
        · rw [if_neg (by omega), if_pos (Or.inr h2)]
      · rw [if_neg (by omega), if_pos (Or.inl h1)]
def edgeF (l : List Int) (f : Nat) : Bool := decide (nt l f 0 = 1 ∨ nt l f 0 = -1 ∨ nt l (56 + f) 0 = 1 ∨ nt l (56 + f) 0 = -1)
theorem edge_rim (l : List Int) : (List.range' 0 8).any (edgeF l) = rimB l := by
  rw [Bool.eq_iff_iff, List.any_eq_true, rimB_eq, List.any_eq_true]
  constructor
  · rintro ⟨f, hf, he⟩
    have hf8 : f < 8 := by have := List.mem_range'_1.1 hf; omega
    have he2 : nt l f 0 = 1 ∨ nt l f 0 = -1 ∨ nt l (56 + f) 0 = 1 ∨ nt l (56 + f) 0 = -1 := of_decide_eq_true he
    by_cases hc : nt l f 0 = 1 ∨ nt l f 0 = -1
    · exact ⟨f, List.mem_range'_1.2 (by omega), decide_eq_true (show rimAt l f from ⟨kind_one.2 hc, Or.inl (by omega)⟩)⟩
    · exact ⟨56 + f, List.mem_range'_1.2 (by omega), decide_eq_true (show rimAt l (56 + f) from ⟨kind_one.2 (by rcases he2 with h | h | h | h; exact absurd (Or.inl h) hc; exact absurd (Or.inr h) hc; exact Or.inl h; exact Or.inr h), Or.inr (by omega)⟩)⟩
  · rintro ⟨i, hi, he⟩
    have hi64 : i < 64 := by have := List.mem_range'_1.1 hi; omega
    have he2 : rimAt l i := of_decide_eq_true he
    have hk : nt l i 0 = 1 ∨ nt l i 0 = -1 := kind_one.1 he2.1
    rcases he2.2 with hr | hr
    · exact ⟨i, List.mem_range'_1.2 (by omega), decide_eq_true (by rcases hk with h | h; exact Or.inl h; exact Or.inr (Or.inl h))⟩
    · refine ⟨i - 56, List.mem_range'_1.2 (by omega), decide_eq_true ?_⟩
      rw [show 56 + (i - 56) = i by omega]
      rcases hk with h | h; exact Or.inr (Or.inr (Or.inl h)); exact Or.inr (Or.inr (Or.inr h))
theorem rWrong_l {l : List Int} (h : B8 l) : ∀ (d f k : Nat), f + d = 8 → d + 100 < k → i_alfilref03_Wrong.l0 k l f =
    some (if (List.range' f d).any (edgeF l) = true then 7 else if 16 < manyZ l 0 0 ∨ 16 < manyZ l 0 1 then 8 else 0) := by
  intro d
  induction d with
  | zero =>
    intro f k hf hk; obtain ⟨k, rfl⟩ : ∃ i, k = i + 1 := ⟨k - 1, by omega⟩
    rw [i_alfilref03_Wrong.l0, if_neg (by omega), rMany h 0 0 (Or.inl rfl) (by omega), Option.bind_some, rMany h 0 1 (Or.inr rfl) (by omega), Option.bind_some, if_neg (show ¬ (List.range' f 0).any (edgeF l) = true by simp)]
    by_cases h3 : 16 < manyZ l 0 0
    · rw [if_pos (by omega), if_pos (Or.inl h3)]
    · rw [if_neg (by omega)]
      by_cases h4 : 16 < manyZ l 0 1
      · rw [if_pos (by omega), if_pos (Or.inr h4)]
      · rw [if_neg (by omega), if_neg (by omega)]
  | succ d ih =>
    intro f k hf hk; obtain ⟨k, rfl⟩ : ∃ i, k = i + 1 := ⟨k - 1, by omega⟩
    have hs : wrap64 ((f : Int) + 1) = ((f + 1 : Nat) : Int) := by rw [q64 (by omega) (by omega)]; rfl
    have h56 : wrap64 (56 + (f : Int)) = ((56 + f : Nat) : Int) := by rw [q64 (by omega) (by omega)]; rfl
    rw [i_alfilref03_Wrong.l0, if_pos (by omega), if_pos (by omega), if_pos (by omega), h56, if_pos (show 0 ≤ ((56 + f : Nat) : Int) by omega), if_pos (show ((56 + f : Nat) : Int) < 64 by omega), Int.toNat_natCast, Int.toNat_natCast, hs, ih (f + 1) k (by omega) (by omega), range_cons, List.any_cons]
    have he : edgeF l f = decide (nt l f 0 = 1 ∨ nt l f 0 = -1 ∨ nt l (56 + f) 0 = 1 ∨ nt l (56 + f) 0 = -1) := rfl
    by_cases h0 : nt l f 0 = 1 ∨ nt l f 0 = -1 ∨ nt l (56 + f) 0 = 1 ∨ nt l (56 + f) 0 = -1
    · rw [he, decide_eq_true h0, Bool.true_or, if_pos (c := true = true) rfl]
      repeat' split
      all_goals first | rfl | (exfalso; omega)
    · rw [he, decide_eq_false h0, Bool.false_or, if_neg (by omega), if_neg (by omega), if_neg (by omega), if_neg (by omega)]
theorem rWrong {l : List Int} (h : B8 l) {k : Nat} (hk : 200 < k) : i_alfilref03_Wrong.f k l = some (wrongZ l) := by
  rw [i_alfilref03_Wrong.f, rRight h (by omega), Option.bind_some]
  unfold wrongZ
  cases ho : okB l with
  | false => rw [if_neg (by simp), if_pos rfl]
  | true =>
    rw [if_pos rfl, if_neg (show ¬ (true = false) by simp), rWhere h _ (by omega), Option.bind_some, rWhere h _ (by omega), Option.bind_some, whereZ_len, whereZ_len, (many_king l).1, (many_king l).2]
    by_cases h1 : manyZ l 6 0 = 1
    · rw [if_pos (by omega)]
      by_cases h2 : manyZ l 6 1 = 1
      · have := rWrong_l h 8 0 k rfl (by omega)
        rw [edge_rim] at this
        rw [if_pos (by omega), if_neg (show ¬ (manyZ l 6 0 ≠ 1 ∨ manyZ l 6 1 ≠ 1) by omega)]; exact this
      · rw [if_neg (by omega), if_pos (Or.inr h2)]
    · rw [if_neg (by omega), if_pos (Or.inl h1)]
end Go.Proofs.Ytpjocgebnodnoaa
