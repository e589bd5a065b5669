import Derived.Test.YtpjocgebnodnoaaBqz
import Derived.Test.YtpjocgebnodnoaaC1wz
namespace Go.Proofs.Ytpjocgebnodnoaa
open Go.RowKit
set_option linter.unusedVariables false
set_option linter.unusedSimpArgs false
theorem q64 {x : Int} (h0 : -9223372036854775808 ≤ x) (h1 : x < 9223372036854775808) : wrap64 x = x := by unfold wrap64; omega
theorem qmRight (x : Int) : i_men_Right.f x = some (manB x) := by
  unfold i_men_Right.f manB
  split
  · rename_i h; subst h; rfl
  · split
    · congr 1; exact decide_eq_decide.mpr (by omega)
    · congr 1; exact (decide_eq_false (by omega)).symm
theorem manB_bd {x : Int} (h : manB x = true) : x ≠ 0 ∧ -6 ≤ x ∧ x ≤ 6 := by simpa [manB] using h
theorem manB_no {x : Int} (h : manB x = false) : x = 0 ∨ x < -6 ∨ 6 < x := by
  have h2 : ¬ (x ≠ 0 ∧ -6 ≤ x ∧ x ≤ 6) := by simpa [manB] using h
  omega
theorem qmKind (x : Int) : i_men_Kind.f x = some (kindZ x) := by
  unfold i_men_Kind.f
  rw [qmRight, Option.bind_some]
  cases h : manB x with
  | false => rw [if_neg (by simp)]; unfold kindZ; rw [if_pos (manB_no h)]
  | true =>
    have := manB_bd h
    rw [if_pos rfl, q64 (by omega) (by omega)]; unfold kindZ
    repeat' split
    all_goals first | rfl | (exfalso; omega) | (congr 1; omega)
theorem qmSide (x : Int) : i_men_Side.f x = some (sideZ x) := by
  unfold i_men_Side.f
  rw [qmRight, Option.bind_some]
  cases h : manB x with
  | false => rw [if_neg (by simp)]; unfold sideZ; rw [if_pos (manB_no h)]
  | true =>
    have := manB_bd h
    rw [if_pos rfl]; unfold sideZ
    repeat' split
    all_goals first | rfl | (exfalso; omega)
theorem qmMake (k s : Int) : i_men_Make.f k s = some (makeZ k s) := by
  unfold i_men_Make.f makeZ
  repeat' split
  all_goals first | rfl | (exfalso; omega) | (rw [q64 (by omega) (by omega)]) | skip
theorem qmOther (s : Int) : i_men_Other.f s = some (otherZ s) := by
  unfold i_men_Other.f otherZ
  by_cases h0 : s = 0
  · subst h0; decide +kernel
  · by_cases h1 : s = 1
    · subst h1; decide +kernel
    · rw [if_neg h0, if_neg h1, if_neg h0, if_neg h1]
theorem nt_bd {l : List Int} (h : B8 l) (i : Nat) : -128 ≤ nt l i 0 ∧ nt l i 0 ≤ 127 := h.2 i
theorem nt_w {l : List Int} (h : B8 l) (i : Nat) : wrap64 (nt l i 0) = nt l i 0 := by have := nt_bd h i; exact q64 (by omega) (by omega)
theorem range_cons {i d : Nat} : List.range' i (d + 1) = i :: List.range' (i + 1) d := List.range'_succ ..
theorem range_zero (d : Nat) : List.range' 0 d = List.range d := (List.range_eq_range' ..).symm
def okF (l : List Int) (i : Nat) : Bool := manB (nt l i 0) || nt l i 0 == 0
theorem okB_eq (l : List Int) : okB l = (List.range' 0 64).all (okF l) := by rw [range_zero]; rfl
theorem qbRight_l {l : List Int} (h : B8 l) : ∀ (d i k : Nat), i + d = 64 → d < k → i_board_Right.l0 k l i = some ((List.range' i d).all (okF l)) := by
  intro d
  induction d with
  | zero => intro i k hi hk; obtain ⟨k, rfl⟩ : ∃ j, k = j + 1 := ⟨k - 1, by omega⟩; rw [i_board_Right.l0, if_neg (by omega)]; rfl
  | succ d ih =>
    intro i k hi hk
    obtain ⟨k, rfl⟩ : ∃ j, k = j + 1 := ⟨k - 1, by omega⟩
    have hs : wrap64 ((i : Int) + 1) = ((i + 1 : Nat) : Int) := by rw [q64 (by omega) (by omega)]; rfl
    rw [i_board_Right.l0, if_pos (by omega), if_pos (by omega), Int.toNat_natCast, nt_w h, qmRight, Option.bind_some, hs, ih (i + 1) k (by omega) (by omega), range_cons, List.all_cons]
    unfold okF
    by_cases h0 : nt l i 0 = 0
    · rw [if_pos h0]; simp [h0]
    · rw [if_neg h0]
      cases hm : manB (nt l i 0) <;> simp [h0]
theorem qbRight {l : List Int} (h : B8 l) {k : Nat} (hk : 64 < k) : i_board_Right.f k l = some (okB l) := by
  rw [i_board_Right.f, okB_eq]; exact qbRight_l h 64 0 k rfl hk
def whereZ (l : List Int) (m : Int) : List Int := (whereK l m 64).map Int.ofNat
theorem whereZ_eq (l : List Int) (m : Int) : whereZ l m = ((List.range' 0 64).filter fun i => nt l i 0 == m).map Int.ofNat := by rw [range_zero]; rfl
theorem qbWhere_l {l : List Int} (h : B8 l) (m : Int) : ∀ (d i k : Nat) (acc : List Int), i + d = 64 → d < k → acc.length ≤ i →
    i_board_Where.l0 k l m acc i = some (acc ++ ((List.range' i d).filter fun j => nt l j 0 == m).map Int.ofNat) := by
  intro d
  induction d with
  | zero => intro i k acc hi hk ha; obtain ⟨k, rfl⟩ : ∃ j, k = j + 1 := ⟨k - 1, by omega⟩; rw [i_board_Where.l0, if_neg (by omega)]; simp
  | succ d ih =>
    intro i k acc hi hk ha
    obtain ⟨k, rfl⟩ : ∃ j, k = j + 1 := ⟨k - 1, by omega⟩
    have hs : wrap64 ((i : Int) + 1) = ((i + 1 : Nat) : Int) := by rw [q64 (by omega) (by omega)]; rfl
    rw [i_board_Where.l0, if_pos (by omega), if_pos (by omega), Int.toNat_natCast, nt_w h, hs, range_cons, List.filter_cons]
    by_cases h0 : nt l i 0 = m
    · rw [if_pos h0, if_pos (by omega), ih (i + 1) k _ (by omega) (by omega) (by simp; omega), if_pos (by simpa using h0)]; simp
    · rw [if_neg h0, ih (i + 1) k _ (by omega) (by omega) (by omega), if_neg (by simpa using h0)]
theorem qbWhere {l : List Int} (h : B8 l) (m : Int) {k : Nat} (hk : 64 < k) : i_board_Where.f k l m = some (whereZ l m) := by
  rw [i_board_Where.f, whereZ_eq]
  have := qbWhere_l h m 64 0 k [] rfl hk (by simp)
  rw [List.nil_append] at this; exact this
def cntF (l : List Int) (kind side : Int) (d i : Nat) : Nat := ((List.range' i d).filter fun j => inB (nt l j 0) kind side).length
theorem many_eq (l : List Int) (kind side : Int) : manyZ l kind side = cntF l kind side 64 0 := by unfold cntF; rw [range_zero]; rfl
theorem qbMany_l {l : List Int} (h : B8 l) (kind side : Int) : ∀ (d i k n : Nat), i + d = 64 → d < k → n ≤ i →
    i_board_Many.l0 k l kind side n i = some ((n + cntF l kind side d i : Nat) : Int) := by
  intro d
  induction d with
  | zero => intro i k n hi hk hn; obtain ⟨k, rfl⟩ : ∃ j, k = j + 1 := ⟨k - 1, by omega⟩; rw [i_board_Many.l0, if_neg (by omega)]; rfl
  | succ d ih =>
    intro i k n hi hk hn
    obtain ⟨k, rfl⟩ : ∃ j, k = j + 1 := ⟨k - 1, by omega⟩
    have hs : wrap64 ((i : Int) + 1) = ((i + 1 : Nat) : Int) := by rw [q64 (by omega) (by omega)]; rfl
    have hn1 : wrap64 ((n : Int) + 1) = ((n + 1 : Nat) : Int) := by rw [q64 (by omega) (by omega)]; rfl
    have hc : cntF l kind side (d + 1) i = (if inB (nt l i 0) kind side = true then 1 else 0) + cntF l kind side d (i + 1) := by
      unfold cntF; rw [range_cons, List.filter_cons]; split <;> simp; omega
    rw [i_board_Many.l0, if_pos (by omega), if_pos (by omega), Int.toNat_natCast, nt_w h, qmRight, Option.bind_some, qmSide, Option.bind_some, qmKind, Option.bind_some, hs, hn1, ih (i + 1) k n (by omega) (by omega) (by omega), ih (i + 1) k (n + 1) (by omega) (by omega) (by omega), hc]
    unfold inB
    cases hm : manB (nt l i 0) with
    | false => rw [if_neg (by simp)]; simp
    | true =>
      rw [if_pos rfl]
      by_cases h1 : sideZ (nt l i 0) = side
      · rw [if_pos h1]
        by_cases h2 : kind = 0
        · rw [if_pos h2]; simp [h1, h2]; omega
        · rw [if_neg h2]
          by_cases h3 : kindZ (nt l i 0) = kind
          · rw [if_pos h3]; simp [h1, h3]; omega
          · rw [if_neg h3]; simp [h1, h2, h3]
      · rw [if_neg h1]; simp [h1]
theorem qbMany {l : List Int} (h : B8 l) (kind side : Int) {k : Nat} (hk : 64 < k) : i_board_Many.f k l kind side = some (manyZ l kind side : Int) := by
  rw [i_board_Many.f, many_eq]
  have := qbMany_l h kind side 64 0 k 0 rfl hk (by simp)
  rw [Nat.zero_add] at this; exact this
theorem qKnown {l : List Int} (h : B8 l) (s : Int) {k : Nat} (hk : 64 < k) : i_count_known.f k l s = some (okB l && decide (s = 0 ∨ s = 1)) := by
  rw [i_count_known.f, qbRight h hk, Option.bind_some, qmOther, Option.bind_some]
  cases okB l with
  | false => rfl
  | true =>
    rw [if_pos rfl, Bool.true_and]; congr 1
    unfold otherZ
    by_cases h0 : s = 0
    · subst h0; rfl
    · by_cases h1 : s = 1
      · subst h1; rfl
      · rw [if_neg h0, if_neg h1]; exact decide_eq_decide.mpr (by omega)
theorem mem_where {l : List Int} {m s : Int} (h : s ∈ whereZ l m) : 0 ≤ s ∧ s < 64 := by
  unfold whereZ whereK at h
  rw [List.mem_map] at h
  obtain ⟨i, hi, rfl⟩ := h
  have := List.mem_range.1 (List.mem_filter.1 hi).1
  exact ⟨by simp, by simp; omega⟩
theorem where_len (l : List Int) (m : Int) : (whereZ l m).length ≤ 64 := by unfold whereZ; rw [List.length_map]; exact whereK_len l m 64
theorem qRank {s : Int} (h0 : 0 ≤ s) (h1 : s < 64) : i_square_Rank.f s = some (s / 8) := by
  rw [i_square_Rank.f, i_square_Right.f, if_pos (show s ≥ 0 from h0), Option.bind_some, decide_eq_true h1, if_pos rfl, Int.tdiv_eq_ediv_of_nonneg h0, q64 (by omega) (by omega)]
theorem qFile {s : Int} (h0 : 0 ≤ s) (h1 : s < 64) : i_square_File.f s = some (s % 8) := by
  rw [i_square_File.f, i_square_Right.f, if_pos (show s ≥ 0 from h0), Option.bind_some, decide_eq_true h1, if_pos rfl, Int.tmod_eq_emod_of_nonneg h0]
theorem qDark {s : Int} (h0 : 0 ≤ s) (h1 : s < 64) : i_square_Dark.f s = some (decide ((s % 8 + s / 8) % 2 = 0)) := by
  rw [i_square_Dark.f, i_square_Right.f, if_pos (show s ≥ 0 from h0), Option.bind_some, decide_eq_true h1, if_pos rfl, Int.tmod_eq_emod_of_nonneg h0, Int.tdiv_eq_ediv_of_nonneg h0, q64 (x := s / 8) (by omega) (by omega), q64 (by omega) (by omega), Int.tmod_eq_emod_of_nonneg (by omega)]
  congr 1
end Go.Proofs.Ytpjocgebnodnoaa
