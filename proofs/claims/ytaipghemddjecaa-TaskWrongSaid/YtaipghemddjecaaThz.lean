import Derived.Test.YtaipghemddjecaaTgz
import Derived.Test.YtaipghemddjecaaZqz
namespace Go.Proofs.Ytaipghemddjecaa
open Go.RowKit
set_option linter.unusedVariables false
set_option linter.unusedSimpArgs false
structure Goes (t m : ByteArray) (a x e x' e' : Int) (same : Prop) : Prop where
  ge : a ≤ x
  le : x ≤ t.size
  ee : e = 0 ∨ e = 1 ∨ e = 2
  one : e = 1 → x = t.size
  two : e = 2 → x < t.size
  ge' : a ≤ x'
  le' : x' ≤ (t ++ m).size
  ee' : e' = 0 ∨ e' = 1 ∨ e' = 2
  app : e = 2 → same
  ok : e = 0 → same ∨ (x = t.size ∧ (t.size : Int) ≤ x')
  late : e = 1 → (t.size : Int) ≤ x'
section
variable {t m : ByteArray} {a : Int} {ss : List ByteArray} {u : ByteArray}
theorem goes_word (m : ByteArray) (h0 : 0 ≤ a) (h1 : a ≤ t.size) (hu : 0 < u.size) :
    Goes t m a (wordZ t a u).1 (wordZ t a u).2.2 (wordZ (t ++ m) a u).1 (wordZ (t ++ m) a u).2.2 (wordZ (t ++ m) a u = wordZ t a u) := by
  have hs := size_app t m
  have b := wordA_bd (t := t) h0 h1 hu
  have b' := wordA_bd (t := t ++ m) h0 (by omega) hu
  exact ⟨b.1, b.2.1, b.2.2.1, b.2.2.2.2.1, b.2.2.2.2.2, b'.1, b'.2.1, b'.2.2.1, fun h => word_app m (.inl h), fun h => .inl (word_app m (.inr h)), wordA_late m h0 h1⟩
theorem goes_one (m : ByteArray) (h0 : 0 ≤ a) (h1 : a ≤ t.size) (hp : apartB ss = true) :
    Goes t m a (oneZ t a ss).1 (oneZ t a ss).2.2 (oneZ (t ++ m) a ss).1 (oneZ (t ++ m) a ss).2.2 (oneZ (t ++ m) a ss = oneZ t a ss) := by
  have hs := size_app t m
  have b := oneA_bd (t := t) h0 h1 hp
  have b' := oneA_bd (t := t ++ m) h0 (by omega) hp
  exact ⟨b.1, b.2.1, b.2.2.1, b.2.2.2.2.1, b.2.2.2.2.2, b'.1, b'.2.1, b'.2.2.1, fun h => oneA_app m h0 h1 hp (.inl h), fun h => .inl (oneA_app m h0 h1 hp (.inr h)), oneA_late m h0 h1 hp⟩
theorem numEnd_bd {least i n : Int} (h0 : 0 ≤ i) (h1 : a ≤ i) (h2 : i ≤ t.size) : a ≤ (numEnd t a least i n).1 ∧ (numEnd t a least i n).1 ≤ t.size ∧
    ((numEnd t a least i n).2.2 = 0 ∨ (numEnd t a least i n).2.2 = 1 ∨ (numEnd t a least i n).2.2 = 2) ∧ ((numEnd t a least i n).2.2 = 0 → a < (numEnd t a least i n).1) ∧
    ((numEnd t a least i n).2.2 = 1 → (numEnd t a least i n).1 = t.size) ∧ ((numEnd t a least i n).2.2 = 2 → (numEnd t a least i n).1 < t.size) := by
  unfold numEnd
  by_cases q : i > a ∧ n ≥ least
  · rw [if_pos q]
    exact ⟨by dsimp only; omega, by dsimp only; omega, .inl rfl, fun _ => by dsimp only; omega, fun h => by dsimp only at h; omega, fun h => by dsimp only at h; omega⟩
  · rw [if_neg q]
    by_cases q2 : i = t.size
    · rw [if_pos q2]
      exact ⟨by dsimp only; omega, by dsimp only; omega, .inr (.inl rfl), fun h => by dsimp only at h; omega, fun h => by dsimp only; omega, fun h => by dsimp only at h; omega⟩
    · rw [if_neg q2]
      exact ⟨by dsimp only; omega, by dsimp only; omega, .inr (.inr rfl), fun h => by dsimp only at h; omega, fun h => by dsimp only at h; omega, fun h => by dsimp only; omega⟩
theorem numF_bd {least most : Int} : ∀ (d : Nat) (i n : Int), 0 ≤ i → a ≤ i → i + d = t.size → a ≤ (numF t a least most d i n).1 ∧ (numF t a least most d i n).1 ≤ t.size ∧
    ((numF t a least most d i n).2.2 = 0 ∨ (numF t a least most d i n).2.2 = 1 ∨ (numF t a least most d i n).2.2 = 2) ∧ ((numF t a least most d i n).2.2 = 0 → a < (numF t a least most d i n).1) ∧
    ((numF t a least most d i n).2.2 = 1 → (numF t a least most d i n).1 = t.size) ∧ ((numF t a least most d i n).2.2 = 2 → (numF t a least most d i n).1 < t.size)
  | 0, i, n, h0, h1, h2 => by
    unfold numF
    exact numEnd_bd h0 h1 (by omega)
  | d + 1, i, n, h0, h1, h2 => by
    rw [numF_s]
    by_cases hd : 48 ≤ bt t i.toNat ∧ bt t i.toNat ≤ 57
    · rw [if_pos hd]
      split
      · exact ⟨h1, by dsimp only; omega, .inr (.inr rfl), fun h => by dsimp only at h; omega, fun h => by dsimp only at h; omega, fun h => by dsimp only; omega⟩
      · exact numF_bd d (i + 1) _ (by omega) (by omega) (by omega)
    · rw [if_neg hd]
      exact numEnd_bd h0 h1 (by omega)
theorem numA_bd {least most : Int} (h0 : 0 ≤ a) (h1 : a ≤ t.size) (hl : 0 ≤ least ∧ least ≤ most ∧ most ≤ 1000000) : a ≤ (numZ t a least most).1 ∧ (numZ t a least most).1 ≤ t.size ∧
    ((numZ t a least most).2.2 = 0 ∨ (numZ t a least most).2.2 = 1 ∨ (numZ t a least most).2.2 = 2) ∧ ((numZ t a least most).2.2 = 0 → a < (numZ t a least most).1) ∧
    ((numZ t a least most).2.2 = 1 → (numZ t a least most).1 = t.size) ∧ ((numZ t a least most).2.2 = 2 → (numZ t a least most).1 < t.size) := by
  unfold numZ
  rw [if_pos ⟨⟨h0, h1⟩, hl⟩]
  exact numF_bd _ a 0 h0 (Int.le_refl _) (by omega)
theorem num_late {least most : Int} (m : ByteArray) (h0 : 0 ≤ a) (h1 : a ≤ t.size) (hl : 0 ≤ least ∧ least ≤ most ∧ most ≤ 1000000) (h : (numZ t a least most).1 = t.size) : (t.size : Int) ≤ (numZ (t ++ m) a least most).1 := by
  have hs := size_app t m
  unfold numZ at h ⊢
  rw [if_pos ⟨⟨h0, h1⟩, hl⟩] at h
  rw [if_pos (show (0 ≤ a ∧ a ≤ ((t ++ m).size : Int)) ∧ 0 ≤ least ∧ least ≤ most ∧ most ≤ 1000000 from ⟨⟨h0, by omega⟩, hl⟩)]
  rw [show (t ++ m).size - a.toNat = (t.size - a.toNat) + m.size by omega]
  rcases numF_app (t := t) (least := least) (most := most) m h0 m.size (t.size - a.toNat) a 0 h0 (by omega) with ⟨n', e1, e2⟩ | ⟨e1, e2⟩
  · rw [e2]; exact numF_ge _ _ _
  · omega
theorem goes_num {least most : Int} (m : ByteArray) (h0 : 0 ≤ a) (h1 : a ≤ t.size) (hl : 0 ≤ least ∧ least ≤ most ∧ most ≤ 1000000) :
    Goes t m a (numZ t a least most).1 (numZ t a least most).2.2 (numZ (t ++ m) a least most).1 (numZ (t ++ m) a least most).2.2 (numZ (t ++ m) a least most = numZ t a least most) := by
  have hs := size_app t m
  have b := numA_bd (t := t) h0 h1 hl
  have b' := numA_bd (t := t ++ m) h0 (by omega) hl
  refine ⟨b.1, b.2.1, b.2.2.1, b.2.2.2.2.1, b.2.2.2.2.2, b'.1, b'.2.1, b'.2.2.1, fun h => num_app m (by have := b.2.2.2.2.2 h; omega) (by omega), fun h => ?_, fun h => num_late m h0 h1 hl (b.2.2.2.2.1 h)⟩
  rcases Int.lt_or_le (numZ t a least most).1 t.size with q | q
  · exact .inl (num_app m q (by omega))
  · exact .inr ⟨by omega, num_late m h0 h1 hl (by omega)⟩
theorem sq_cases (t : ByteArray) (n : Nat) : (n = t.size ∧ sqZ t n = ((n : Int), 0, 1)) ∨ (n ≠ t.size ∧ ¬ (97 ≤ bt t n ∧ bt t n ≤ 104) ∧ sqZ t n = ((n : Int), 0, 2)) ∨
    (n ≠ t.size ∧ (97 ≤ bt t n ∧ bt t n ≤ 104) ∧ n + 1 = t.size ∧ sqZ t n = ((n : Int) + 1, 0, 1)) ∨ (n ≠ t.size ∧ (97 ≤ bt t n ∧ bt t n ≤ 104) ∧ n + 1 ≠ t.size ∧ ¬ (49 ≤ bt t (n + 1) ∧ bt t (n + 1) ≤ 56) ∧ sqZ t n = ((n : Int) + 1, 0, 2)) ∨
    (n ≠ t.size ∧ (97 ≤ bt t n ∧ bt t n ≤ 104) ∧ n + 1 ≠ t.size ∧ (49 ≤ bt t (n + 1) ∧ bt t (n + 1) ≤ 56) ∧ sqZ t n = ((n : Int) + 2, 8 * (bt t (n + 1) - 49) + (bt t n - 97), 0)) := by
  unfold sqZ
  by_cases h1 : n = t.size
  · rw [if_pos h1]; exact .inl ⟨h1, rfl⟩
  · rw [if_neg h1]
    by_cases h2 : 97 ≤ bt t n ∧ bt t n ≤ 104
    · rw [if_pos h2]
      by_cases h3 : n + 1 = t.size
      · rw [if_pos h3]; exact .inr (.inr (.inl ⟨h1, h2, h3, rfl⟩))
      · rw [if_neg h3]
        by_cases h4 : 49 ≤ bt t (n + 1) ∧ bt t (n + 1) ≤ 56
        · rw [if_pos h4]; exact .inr (.inr (.inr (.inr ⟨h1, h2, h3, h4, rfl⟩)))
        · rw [if_neg h4]; exact .inr (.inr (.inr (.inl ⟨h1, h2, h3, h4, rfl⟩)))
    · rw [if_neg h2]; exact .inr (.inl ⟨h1, h2, rfl⟩)
theorem sq_app {n : Nat} (m : ByteArray) (h1 : n ≤ t.size) (h : (sqZ t n).2.2 ≠ 1) : sqZ (t ++ m) n = sqZ t n := by
  have hs := size_app t m
  have e0 : n < t.size → bt (t ++ m) n = bt t n := fun h => bt_app t m h
  have e1 : n + 1 < t.size → bt (t ++ m) (n + 1) = bt t (n + 1) := fun h => bt_app t m h
  rcases sq_cases t n with ⟨p1, e⟩ | ⟨p1, p2, e⟩ | ⟨p1, p2, p3, e⟩ | ⟨p1, p2, p3, p4, e⟩ | ⟨p1, p2, p3, p4, e⟩
  · exact absurd (by rw [e]) h
  · rw [e]; unfold sqZ
    rw [if_neg (by omega), e0 (by omega), if_neg p2]
  · exact absurd (by rw [e]) h
  · rw [e]; unfold sqZ
    rw [if_neg (by omega), e0 (by omega), if_pos p2, if_neg (by omega), e1 (by omega), if_neg p4]
  · rw [e]; unfold sqZ
    rw [if_neg (by omega), e0 (by omega), if_pos p2, if_neg (by omega), e1 (by omega), if_pos p4]
theorem sq_bd {n : Nat} (h1 : n ≤ t.size) : (n : Int) ≤ (sqZ t n).1 ∧ (sqZ t n).1 ≤ t.size ∧ ((sqZ t n).2.2 = 0 ∨ (sqZ t n).2.2 = 1 ∨ (sqZ t n).2.2 = 2) ∧ ((sqZ t n).2.2 = 0 → n < (sqZ t n).1) ∧ ((sqZ t n).2.2 = 1 → (sqZ t n).1 = t.size) ∧ ((sqZ t n).2.2 = 2 → (sqZ t n).1 < t.size) := by
  rcases sq_cases t n with ⟨p1, e⟩ | ⟨p1, p2, e⟩ | ⟨p1, p2, p3, e⟩ | ⟨p1, p2, p3, p4, e⟩ | ⟨p1, p2, p3, p4, e⟩ <;> rw [e] <;> dsimp only
  · exact ⟨by omega, by omega, .inr (.inl rfl), fun h => by omega, fun _ => by omega, fun h => by omega⟩
  · exact ⟨by omega, by omega, .inr (.inr rfl), fun h => by omega, fun h => by omega, fun _ => by omega⟩
  · exact ⟨by omega, by omega, .inr (.inl rfl), fun h => by omega, fun _ => by omega, fun h => by omega⟩
  · exact ⟨by omega, by omega, .inr (.inr rfl), fun h => by omega, fun h => by omega, fun _ => by omega⟩
  · exact ⟨by omega, by omega, .inl rfl, fun _ => by omega, fun h => by omega, fun h => by omega⟩
theorem goes_sq {n : Nat} (m : ByteArray) (h1 : n ≤ t.size) : Goes t m n (sqZ t n).1 (sqZ t n).2.2 (sqZ (t ++ m) n).1 (sqZ (t ++ m) n).2.2 (sqZ (t ++ m) n = sqZ t n) := by
  have hs := size_app t m
  have b := sq_bd (t := t) h1
  have b' := sq_bd (t := t ++ m) (n := n) (by omega)
  refine ⟨b.1, b.2.1, b.2.2.1, b.2.2.2.2.1, b.2.2.2.2.2, b'.1, b'.2.1, b'.2.2.1, fun h => sq_app m h1 (by omega), fun h => .inl (sq_app m h1 (by omega)), fun h => ?_⟩
  have e0 : n < t.size → bt (t ++ m) n = bt t n := fun h => bt_app t m h
  rcases sq_cases t n with ⟨p1, e⟩ | ⟨p1, p2, e⟩ | ⟨p1, p2, p3, e⟩ | ⟨p1, p2, p3, p4, e⟩ | ⟨p1, p2, p3, p4, e⟩
  · omega
  · rw [e] at h; simp at h
  · rw [← e0 (by omega)] at p2
    rcases sq_cases (t ++ m) n with ⟨q1, e'⟩ | ⟨q1, q2, e'⟩ | ⟨q1, q2, q3, e'⟩ | ⟨q1, q2, q3, q4, e'⟩ | ⟨q1, q2, q3, q4, e'⟩ <;> rw [e'] <;> dsimp only
    · omega
    · exact absurd p2 q2
    · omega
    · omega
    · omega
  · rw [e] at h; simp at h
  · rw [e] at h; simp at h
end
end Go.Proofs.Ytaipghemddjecaa
