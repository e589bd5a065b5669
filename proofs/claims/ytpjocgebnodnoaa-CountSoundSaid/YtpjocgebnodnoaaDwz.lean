import Derived.Test.YtpjocgebnodnoaaCyz
namespace Go.Proofs.Ytpjocgebnodnoaa
open Go.RowKit
set_option linter.unusedVariables false
set_option linter.unusedSimpArgs false
def whyZ (l : List Int) (v0 v1 : Int) : Int :=
  if wrongZ l ≠ 0 then 1 else if (manyZ l 1 0 : Int) + promZ l 0 > 8 then 2 else if (manyZ l 1 1 : Int) + promZ l 1 > 8 then 3 else if v0 < 0 then 4 else if v1 < 0 then 5
  else if v0 > 16 - (manyZ l 0 1 : Int) then 6 else if v1 > 16 - (manyZ l 0 0 : Int) then 7 else 0
theorem wrong_ok {l : List Int} (h : wrongZ l = 0) : okB l = true := by
  cases e : okB l with
  | true => rfl
  | false => unfold wrongZ at h; rw [if_pos e] at h; cases h
theorem best_bd {side : Int} {t : List Int} {v : Int} (h : Best side t v) : -1 ≤ v ∧ v ≤ 40 := by
  rcases h with ⟨h, _⟩ | ⟨⟨ps, h1, _, h2⟩, _⟩
  · omega
  · have := cost_le h1; have := fit_len h1; have := cost_nn ps; omega
structure Two (l : List Int) (v0 v1 : Int) : Prop where
  b0 : Best 0 (whereZ l (sg 0 1)) v0
  b1 : Best 1 (whereZ l (sg 1 1)) v1
theorem two_of (l : List Int) (h : B8 l) : ∃ v0 v1, (okB l = true → Two l v0 v1) ∧ (okB l = true → ∀ k, 4000 < k → i_count_Least.f k l 0 = some (outZ v0) ∧ i_count_Least.f k l 1 = some (outZ v1)) ∧ -1 ≤ v0 ∧ v0 ≤ 40 ∧ -1 ≤ v1 ∧ v1 ≤ 40 := by
  by_cases ho : okB l = true
  · obtain ⟨v0, a0, c0⟩ := qLeast h ho (side := 0) (.inl rfl)
    obtain ⟨v1, a1, c1⟩ := qLeast h ho (side := 1) (.inr rfl)
    exact ⟨v0, v1, fun _ => ⟨a0, a1⟩, fun _ k hk => ⟨c0 k hk, c1 k hk⟩, (best_bd a0).1, (best_bd a0).2, (best_bd a1).1, (best_bd a1).2⟩
  · exact ⟨0, 0, fun hh => absurd hh ho, fun hh => absurd hh ho, by omega, by omega, by omega, by omega⟩
theorem z1 : wrap64 (0 + 1) = 1 := by decide +kernel
theorem z2 : wrap64 (1 + 1) = 2 := by decide +kernel
theorem zz : wrap64 (2 + 0) = 2 ∧ wrap64 (2 + 1) = 3 ∧ wrap64 (4 + 0) = 4 ∧ wrap64 (4 + 1) = 5 ∧ wrap64 (6 + 0) = 6 ∧ wrap64 (6 + 1) = 7 ∧ wrap64 (1 - 0) = 1 ∧ wrap64 (1 - 1) = 0 := by decide +kernel
theorem w_mp (l : List Int) (s : Int) : wrap64 ((manyZ l 1 s : Int) + promZ l s) = (manyZ l 1 s : Int) + promZ l s := by
  have := many_le l 1 s; have := prom_bd l s; exact q64 (by omega) (by omega)
theorem w_16 (l : List Int) (s : Int) : wrap64 (16 - (manyZ l 0 s : Int)) = 16 - (manyZ l 0 s : Int) := by
  have := many_le l 0 s; exact q64 (by omega) (by omega)
theorem qWhy {l : List Int} (h : B8 l) {v0 v1 : Int} (hl : okB l = true → ∀ k, 4000 < k → i_count_Least.f k l 0 = some (outZ v0) ∧ i_count_Least.f k l 1 = some (outZ v1)) {k : Nat} (hk : 5000 < k) :
    i_count_Why.f k l = some (whyZ l v0 v1, decide (whyZ l v0 v1 > 0)) := by
  obtain ⟨y1, y2, y3, y4, y5, y6, y7, y8⟩ := zz
  rw [i_count_Why.f, qWrong h (by omega), Option.bind_some]
  unfold whyZ
  by_cases hw : wrongZ l = 0
  · have ho := wrong_ok hw
    have tv := hl ho
    have pr : ∀ s k, 70 < k → (s = 0 ∨ s = 1) → i_count_Promoted.f k l s = some (promZ l s) := fun s k hk hs => by rw [qProm h s hk, if_pos ⟨ho, hs⟩]
    obtain ⟨k, rfl⟩ : ∃ i, k = i + 9 := ⟨k - 9, by omega⟩
    rw [if_pos hw, if_neg (show ¬ (wrongZ l ≠ 0) from fun hh => hh hw)]
    rw [i_count_Why.l0, if_pos (by omega), qbMany h 1 0 (by omega), Option.bind_some, pr 0 _ (by omega) (.inl rfl), Option.bind_some, w_mp, y1, z1]
    by_cases h2 : (manyZ l 1 0 : Int) + promZ l 0 > 8
    · rw [if_pos h2, if_pos h2]; rfl
    · rw [if_neg h2, if_neg h2, i_count_Why.l0, if_pos (by omega), qbMany h 1 1 (by omega), Option.bind_some, pr 1 _ (by omega) (.inr rfl), Option.bind_some, w_mp, y2, z2]
      by_cases h3 : (manyZ l 1 1 : Int) + promZ l 1 > 8
      · rw [if_pos h3, if_pos h3]; rfl
      · rw [if_neg h3, if_neg h3, i_count_Why.l0, if_neg (by omega)]
        rw [i_count_Why.l1, if_pos (by omega), (tv _ (by omega)).1, Option.bind_some, y3, z1]
        by_cases h4 : v0 < 0
        · rw [show outZ v0 = (0, false) by unfold outZ; rw [if_pos h4]]
          rw [if_neg (by simp), if_pos h4]; rfl
        · rw [show outZ v0 = (v0, true) by unfold outZ; rw [if_neg h4]]
          rw [if_pos rfl, if_pos (by omega), if_neg h4, i_count_Why.l1, if_pos (by omega), (tv _ (by omega)).2, Option.bind_some, y4, z2]
          by_cases h5 : v1 < 0
          · rw [show outZ v1 = (0, false) by unfold outZ; rw [if_pos h5]]
            rw [if_neg (by simp), if_pos h5]; rfl
          · rw [show outZ v1 = (v1, true) by unfold outZ; rw [if_neg h5]]
            rw [if_pos rfl, if_pos (by omega), if_neg h5, i_count_Why.l1, if_neg (by omega)]
            rw [show (((List.replicate 2 (0 : Int)).set (0 : Int).toNat v0).set (1 : Int).toNat v1) = [v0, v1] from rfl]
            rw [i_count_Why.l2, if_pos (by omega), if_pos (by omega), qmOther, Option.bind_some, show otherZ 0 = 1 by decide, qbMany h 0 1 (by omega), Option.bind_some, w_16, y5, z1, show nt [v0, v1] (0 : Int).toNat 0 = v0 from rfl]
            by_cases h6 : v0 > 16 - (manyZ l 0 1 : Int)
            · rw [if_pos h6, if_pos h6]; rfl
            · rw [if_neg h6, if_neg h6, i_count_Why.l2, if_pos (by omega), if_pos (by omega), qmOther, Option.bind_some, show otherZ 1 = 0 by decide, qbMany h 0 0 (by omega), Option.bind_some, w_16, y6, z2, show nt [v0, v1] (1 : Int).toNat 0 = v1 from rfl]
              by_cases h7 : v1 > 16 - (manyZ l 0 0 : Int)
              · rw [if_pos h7, if_pos h7]; rfl
              · rw [if_neg h7, if_neg h7, i_count_Why.l2, if_neg (by omega)]; rfl
  · rw [if_neg hw, if_pos hw]; rfl
theorem qIllegal {l : List Int} (h : B8 l) {v0 v1 : Int} (hl : okB l = true → ∀ k, 4000 < k → i_count_Least.f k l 0 = some (outZ v0) ∧ i_count_Least.f k l 1 = some (outZ v1)) {k : Nat} (hk : 5000 < k) :
    i_count_Illegal.f k l = some (decide (whyZ l v0 v1 > 0)) := by rw [i_count_Illegal.f, qWhy h hl hk]; rfl
end Go.Proofs.Ytpjocgebnodnoaa
