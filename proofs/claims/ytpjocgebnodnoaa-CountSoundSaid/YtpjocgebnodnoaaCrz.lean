import Derived.Test.YtpjocgebnodnoaaCqz
import Derived.Test.YtpjocgebnodnoaaC3wz
namespace Go.Proofs.Ytpjocgebnodnoaa
open Go.RowKit
set_option linter.unusedVariables false
set_option linter.unusedSimpArgs false
theorem rWhere_l {l : List Int} (h : B8 l) (m : Int) : ∀ (d i k : Nat) (acc : List Int), i + d = 64 → d < k → acc.length ≤ i →
    i_alfilref03_Where.l0 k l m acc i = some (acc ++ ((List.range' i d).filter fun j => nt l j 0 == m).map Int.ofNat) := by
  intro d
  induction d with
  | zero => intro i k acc hi hk ha; obtain ⟨k, rfl⟩ : ∃ j, k = j + 1 := ⟨k - 1, by omega⟩; rw [i_alfilref03_Where.l0, if_neg (by omega)]; simp
  | succ d ih =>
    intro i k acc hi hk ha
    obtain ⟨k, rfl⟩ : ∃ j, k = j + 1 := ⟨k - 1, by omega⟩
    have hs : wrap64 ((i : Int) + 1) = ((i + 1 : Nat) : Int) := by rw [q64 (by omega) (by omega)]; rfl
    rw [i_alfilref03_Where.l0, if_pos (by omega), if_pos (by omega), Int.toNat_natCast, nt_w h, hs, range_cons, List.filter_cons]
    by_cases h0 : nt l i 0 = m
    · rw [if_pos h0, if_pos (by omega), ih (i + 1) k _ (by omega) (by omega) (by simp; omega), if_pos (by simpa using h0)]; simp
    · rw [if_neg h0, ih (i + 1) k _ (by omega) (by omega) (by omega), if_neg (by simpa using h0)]
theorem rWhere {l : List Int} (h : B8 l) (m : Int) {k : Nat} (hk : 64 < k) : i_alfilref03_Where.f k l m = some (whereZ l m) := by
  rw [i_alfilref03_Where.f, whereZ_eq]
  have := rWhere_l h m 64 0 k [] rfl hk (by simp)
  rw [List.nil_append] at this; exact this
theorem rKind_l {x : Int} (h0 : -128 ≤ x) (h1 : x ≤ 127) : ∀ (d j k : Nat), j + d = 7 → d < k → 1 ≤ j →
    i_alfilref02_Kind.l0 k x j = some (if (j ≤ x ∧ x ≤ 6) ∨ (j ≤ -x ∧ -x ≤ 6) then kindZ x else 0) := by
  intro d
  induction d with
  | zero =>
    intro j k hj hk h; obtain ⟨k, rfl⟩ : ∃ i, k = i + 1 := ⟨k - 1, by omega⟩
    rw [i_alfilref02_Kind.l0, if_neg (by omega), if_neg (by omega)]
  | succ d ih =>
    intro j k hj hk h
    obtain ⟨k, rfl⟩ : ∃ i, k = i + 1 := ⟨k - 1, by omega⟩
    have hs : wrap64 ((j : Int) + 1) = ((j + 1 : Nat) : Int) := by rw [q64 (by omega) (by omega)]; rfl
    rw [i_alfilref02_Kind.l0, if_pos (by omega), q64 (x := -(j : Int)) (by omega) (by omega), hs, ih (j + 1) k (by omega) (by omega) (by omega)]
    unfold kindZ
    repeat' split
    all_goals first | rfl | (exfalso; omega) | (congr 1; omega)
theorem rKind {x : Int} (h0 : -128 ≤ x) (h1 : x ≤ 127) {k : Nat} (hk : 6 < k) : i_alfilref02_Kind.f k x = some (kindZ x) := by
  rw [i_alfilref02_Kind.f]
  have := rKind_l h0 h1 6 1 k rfl hk (by omega)
  rw [show (1 : Int) = ((1 : Nat) : Int) from rfl, this]
  unfold kindZ
  repeat' split
  all_goals first | rfl | (exfalso; omega)
theorem rRight_l {l : List Int} (h : B8 l) : ∀ (d i k : Nat), i + d = 64 → d + 7 < k → i_alfilref03_Right.l0 k l i = some ((List.range' i d).all (okF l)) := by
  intro d
  induction d with
  | zero => intro i k hi hk; obtain ⟨k, rfl⟩ : ∃ j, k = j + 1 := ⟨k - 1, by omega⟩; rw [i_alfilref03_Right.l0, if_neg (by omega)]; rfl
  | succ d ih =>
    intro i k hi hk
    obtain ⟨k, rfl⟩ : ∃ j, k = j + 1 := ⟨k - 1, by omega⟩
    have hs : wrap64 ((i : Int) + 1) = ((i + 1 : Nat) : Int) := by rw [q64 (by omega) (by omega)]; rfl
    have hb := nt_bd h i
    rw [i_alfilref03_Right.l0, if_pos (by omega), if_pos (by omega), Int.toNat_natCast, nt_w h, rKind hb.1 hb.2 (by omega), Option.bind_some, hs, ih (i + 1) k (by omega) (by omega), range_cons, List.all_cons]
    unfold okF
    by_cases h0 : nt l i 0 = 0
    · rw [if_pos h0]; simp [h0]
    · rw [if_neg h0]
      cases hm : manB (nt l i 0) with
      | false => rw [if_pos (by have := manB_no hm; unfold kindZ; rw [if_pos this])]; simp [h0]
      | true => rw [if_neg (by rw [← ne_eq, ← manB_kind]; exact hm)]; simp
theorem rRight {l : List Int} (h : B8 l) {k : Nat} (hk : 71 < k) : i_alfilref03_Right.f k l = some (okB l) := by
  rw [i_alfilref03_Right.f, okB_eq]; exact rRight_l h 64 0 k rfl (by omega)
theorem whereZ_len (l : List Int) (m : Int) : (whereZ l m).length = (whereK l m 64).length := by unfold whereZ; rw [List.length_map]
theorem make_sg {kind side : Int} (h0 : 1 ≤ kind) (h1 : kind ≤ 6) (hs : side = 0 ∨ side = 1) : makeZ kind side = sg side kind := by
  unfold makeZ sg
  rcases hs with rfl | rfl
  · rw [if_neg (by omega), if_pos rfl, if_pos rfl]
  · rw [if_neg (by omega), if_neg (by omega), if_pos rfl, if_neg (by omega)]
theorem rFile_l : ∀ (d k : Nat) (s : Int), 0 ≤ s → s < 8 * ((d : Int) + 1) → s < 64 → d < k → i_alfilref01_File.l0 k s = some (s % 8) := by
  intro d
  induction d with
  | zero => intro k s h0 h1 h2 hk; obtain ⟨k, rfl⟩ : ∃ i, k = i + 1 := ⟨k - 1, by omega⟩; rw [i_alfilref01_File.l0, if_neg (by omega)]; congr 1; omega
  | succ d ih =>
    intro k s h0 h1 h2 hk; obtain ⟨k, rfl⟩ : ∃ i, k = i + 1 := ⟨k - 1, by omega⟩
    rw [i_alfilref01_File.l0]
    by_cases h : s ≥ 8
    · rw [if_pos h, q64 (by omega) (by omega), ih k _ (by omega) (by omega) (by omega) (by omega)]; congr 1; omega
    · rw [if_neg h]; congr 1; omega
theorem rFile {s : Int} (h0 : 0 ≤ s) (h1 : s < 64) {k : Nat} (hk : 8 < k) : i_alfilref01_File.f k s = some (s % 8) := by
  rw [i_alfilref01_File.f, i_alfilref01_Right.f, if_pos h0, Option.bind_some, decide_eq_true (by omega), if_pos rfl]
  exact rFile_l 8 k s h0 (by omega) h1 hk
theorem rRank_l : ∀ (d k : Nat) (s n : Int), 0 ≤ s → s < 8 * ((d : Int) + 1) → s < 64 → d < k → 0 ≤ n → n + d < 100 → i_alfilref01_Rank.l0 k s n = some (n + s / 8) := by
  intro d
  induction d with
  | zero => intro k s n h0 h1 h2 hk hn hn2; obtain ⟨k, rfl⟩ : ∃ i, k = i + 1 := ⟨k - 1, by omega⟩; rw [i_alfilref01_Rank.l0, if_neg (by omega)]; congr 1; omega
  | succ d ih =>
    intro k s n h0 h1 h2 hk hn hn2; obtain ⟨k, rfl⟩ : ∃ i, k = i + 1 := ⟨k - 1, by omega⟩
    rw [i_alfilref01_Rank.l0]
    by_cases h : s ≥ 8
    · rw [if_pos h, q64 (x := s - 8) (by omega) (by omega), q64 (x := n + 1) (by omega) (by omega), ih k _ _ (by omega) (by omega) (by omega) (by omega) (by omega) (by omega)]; congr 1; omega
    · rw [if_neg h]; congr 1; omega
theorem rRank {s : Int} (h0 : 0 ≤ s) (h1 : s < 64) {k : Nat} (hk : 8 < k) : i_alfilref01_Rank.f k s = some (s / 8) := by
  rw [i_alfilref01_Rank.f, i_alfilref01_Right.f, if_pos h0, Option.bind_some, decide_eq_true (by omega), if_pos rfl, rRank_l 8 k s 0 h0 (by omega) h1 hk (by omega) (by omega), Int.zero_add]
end Go.Proofs.Ytpjocgebnodnoaa
