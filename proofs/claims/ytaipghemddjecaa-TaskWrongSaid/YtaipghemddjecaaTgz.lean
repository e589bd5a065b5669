import Derived.Test.YtaipghemddjecaaSzz
namespace Go.Proofs.Ytaipghemddjecaa
open Go.RowKit
set_option linter.unusedVariables false
set_option linter.unusedSimpArgs false
theorem fitA_eq (t u : ByteArray) {a : Int} (ha : 0 ≤ a) : ∀ (f : Nat) (n : Int), 0 ≤ n → ∀ i : Nat, n ≤ i → (i : Int) < fitF t a u f n → bt t (a + i).toNat = bt u i
  | 0, n, h0, i, h1, h2 => by unfold fitF at h2; omega
  | f + 1, n, h0, i, h1, h2 => by
    unfold fitF at h2
    split at h2
    · rename_i hc
      by_cases e : (i : Int) = n
      · have := hc.2; rw [show (a + n).toNat = (a + i).toNat by omega, show n.toNat = i by omega] at this; exact this
      · exact fitA_eq t u ha f (n + 1) (by omega) i (by omega) h2
    · omega
theorem fitA_ge (t u m : ByteArray) {a : Int} (ha : 0 ≤ a) : ∀ (f : Nat) (n : Int), 0 ≤ n → a + n ≤ t.size → fitF t a u f n ≤ fitF (t ++ m) a u f n
  | 0, n, _, _ => Int.le_refl _
  | f + 1, n, h0, h1 => by
    have hs := size_app t m
    rw [fitF]
    split
    · rename_i hc
      rw [show fitF (t ++ m) a u (f + 1) n = if a + n < (t ++ m).size ∧ bt (t ++ m) (a + n).toNat = bt u n.toNat then fitF (t ++ m) a u f (n + 1) else n from rfl]
      rw [if_pos ⟨by omega, by rw [bt_app t m (by omega)]; exact hc.2⟩]
      exact fitA_ge t u m ha f (n + 1) (by omega) (by omega)
    · exact (fitF_le (t ++ m) a u (f + 1) n (by omega)).1
section
variable {t m : ByteArray} {a : Int} {ss : List ByteArray} {u v : ByteArray}
theorem fitN_eq (ha : 0 ≤ a) {i : Nat} (h : (i : Int) < fitN t a u) : bt t (a + i).toNat = bt u i := fitA_eq t u ha u.size 0 (by omega) i (by omega) h
theorem fitN_ge (ha : 0 ≤ a) (h : a ≤ t.size) : fitN t a u ≤ fitN (t ++ m) a u := fitA_ge t u m ha u.size 0 (by omega) (by omega)
theorem fitN_app (m : ByteArray) (ha : 0 ≤ a) (h1 : a ≤ t.size) (h : a + fitN t a u < t.size ∨ fitN t a u = u.size) : fitN (t ++ m) a u = fitN t a u :=
  fitF_app m ha u.size 0 (by omega) (by omega) (by rw [show fitF t a u u.size 0 = fitN t a u from rfl]; omega)
theorem both_begA (ha : 0 ≤ a) (hu : fitN t a u = u.size) (hv : fitN t a v = v.size) (h : u.size ≤ v.size) : begB v u = true :=
  beg_is.2 ⟨h, fun i hi => by rw [← fitN_eq (t := t) ha (show (i : Int) < fitN t a v by omega), ← fitN_eq (t := t) ha (show (i : Int) < fitN t a u by omega)]⟩
theorem not_bothA (ha : 0 ≤ a) (hp : apartB ss = true) {i k : Nat} (hi : i < ss.length) (hk : k < ss.length) (hne : i ≠ k) (h1 : fitN t a (wd ss i) = (wd ss i).size) (h2 : fitN t a (wd ss k) = (wd ss k).size) : False := by
  have A := apart_at hp hi hk
  have B := apart_at hp hk hi
  unfold badW at A B
  rw [Bool.or_eq_false_iff, decide_eq_true hne, Bool.true_and] at A
  rw [Bool.or_eq_false_iff, decide_eq_true (show k ≠ i by omega), Bool.true_and] at B
  rcases Nat.le_total (wd ss i).size (wd ss k).size with h | h
  · rw [both_begA ha h1 h2 h] at A; exact absurd A.2 (by decide)
  · rw [both_begA ha h2 h1 h] at B; exact absurd B.2 (by decide)
theorem oneA_hit {k : Nat} (hk : fitN t a (wd ss k) = (wd ss k).size) : ∀ (d i : Nat), i ≤ k → k < i + d → (∀ j, i ≤ j → j < k → fitN t a (wd ss j) ≠ (wd ss j).size) → oneF t a ss d i = (a + fitN t a (wd ss k), (k : Int), 0)
  | 0, i, h1, h2, h3 => by omega
  | d + 1, i, h1, h2, h3 => by
    unfold oneF
    by_cases e : i = k
    · subst e; rw [if_pos hk]
    · rw [if_neg (h3 i (Nat.le_refl _) (by omega))]
      exact oneA_hit hk d (i + 1) (by omega) (by omega) (fun j a b => h3 j (by omega) b)
theorem oneA_miss : ∀ (d i : Nat), (∀ j, i ≤ j → j < i + d → fitN t a (wd ss j) ≠ (wd ss j).size) → oneF t a ss d i = (a + mostN t a ss (i + d), 0, endE t a ss (i + d))
  | 0, i, h => by unfold oneF; simp
  | d + 1, i, h => by
    unfold oneF
    rw [if_neg (h i (Nat.le_refl _) (by omega)), oneA_miss d (i + 1) (fun j a b => h j (by omega) (by omega)), show i + 1 + d = i + (d + 1) by omega]
theorem mostA_bd : ∀ (k j : Nat), j < k → fitN t a (wd ss j) ≤ mostN t a ss k
  | k + 1, j, h => by
    unfold mostN
    rcases (show j < k ∨ j = k by omega) with h' | rfl
    · have := mostA_bd k j h'; omega
    · omega
theorem mostA_at : ∀ (k : Nat), 0 < mostN t a ss k → ∃ j, j < k ∧ fitN t a (wd ss j) = mostN t a ss k
  | 0, h => by unfold mostN at h; omega
  | k + 1, h => by
    unfold mostN at h ⊢
    by_cases e : mostN t a ss k < fitN t a (wd ss k)
    · exact ⟨k, by omega, by omega⟩
    · obtain ⟨j, h1, h2⟩ := mostA_at k (by omega)
      exact ⟨j, by omega, by omega⟩
theorem mostA_same {t' : ByteArray} : ∀ (k : Nat), (∀ j, j < k → fitN t' a (wd ss j) = fitN t a (wd ss j)) → mostN t' a ss k = mostN t a ss k
  | 0, _ => rfl
  | k + 1, h => by unfold mostN; rw [mostA_same k (fun j hj => h j (by omega)), h k (by omega)]
theorem mostA_le {t' : ByteArray} : ∀ (k : Nat), (∀ j, j < k → fitN t a (wd ss j) ≤ fitN t' a (wd ss j)) → mostN t a ss k ≤ mostN t' a ss k
  | 0, _ => Int.le_refl _
  | k + 1, h => by unfold mostN; have := mostA_le k (fun j hj => h j (by omega)); have := h k (by omega); omega
theorem oneA_in (h0 : 0 ≤ a) (h1 : a ≤ t.size) (hp : apartB ss = true) : oneZ t a ss = oneF t a ss ss.length 0 := by
  unfold oneZ; rw [if_pos ⟨⟨h0, h1⟩, hp⟩]
theorem oneA_cases (h0 : 0 ≤ a) (h1 : a ≤ t.size) (hp : apartB ss = true) :
    (∃ k, k < ss.length ∧ fitN t a (wd ss k) = (wd ss k).size ∧ 0 < (wd ss k).size ∧ oneZ t a ss = (a + fitN t a (wd ss k), (k : Int), 0)) ∨
    ((∀ j, j < ss.length → fitN t a (wd ss j) ≠ (wd ss j).size) ∧ oneZ t a ss = (a + mostN t a ss ss.length, 0, endE t a ss ss.length)) := by
  rw [oneA_in h0 h1 hp]
  rcases first_hit (fun k => fitN t a (wd ss k) = (wd ss k).size) ss.length with ⟨k, hk, hhit, hbef⟩ | hno
  · exact .inl ⟨k, hk, hhit, apart_full hp hk, oneA_hit hhit ss.length 0 (by omega) (by omega) (fun j _ hj => hbef j hj)⟩
  · refine .inr ⟨hno, ?_⟩
    rw [oneA_miss ss.length 0 (fun j _ hj => hno j (by omega)), Nat.zero_add]
theorem oneA_bd (h0 : 0 ≤ a) (h1 : a ≤ t.size) (hp : apartB ss = true) : a ≤ (oneZ t a ss).1 ∧ (oneZ t a ss).1 ≤ t.size ∧ ((oneZ t a ss).2.2 = 0 ∨ (oneZ t a ss).2.2 = 1 ∨ (oneZ t a ss).2.2 = 2) ∧
    ((oneZ t a ss).2.2 = 0 → a < (oneZ t a ss).1 ∧ 0 ≤ (oneZ t a ss).2.1 ∧ (oneZ t a ss).2.1 < ss.length) ∧ ((oneZ t a ss).2.2 = 1 → (oneZ t a ss).1 = t.size) ∧ ((oneZ t a ss).2.2 = 2 → (oneZ t a ss).1 < t.size) := by
  have n0 := apart_pos hp
  rcases oneA_cases h0 h1 hp with ⟨k, hk, hh, hz, e⟩ | ⟨hno, e⟩ <;> rw [e] <;> dsimp only
  · have := fitN_le (t := t) (a := a) (wd ss k) h1
    exact ⟨by omega, by omega, .inl rfl, fun _ => ⟨by omega, by omega, by omega⟩, fun h => by omega, fun h => by omega⟩
  · have := mostN_le (t := t) (a := a) ss h1 ss.length
    unfold endE
    split
    · rename_i hc
      exact ⟨by omega, by omega, .inr (.inl rfl), fun h => by omega, fun _ => by omega, fun h => by omega⟩
    · rename_i hc
      exact ⟨by omega, by omega, .inr (.inr rfl), fun h => by omega, fun h => by omega, fun _ => by omega⟩
theorem oneA_app (m : ByteArray) (h0 : 0 ≤ a) (h1 : a ≤ t.size) (hp : apartB ss = true) (h : (oneZ t a ss).2.2 = 2 ∨ (oneZ t a ss).2.2 = 0) : oneZ (t ++ m) a ss = oneZ t a ss := by
  have n0 := apart_pos hp
  have hs := size_app t m
  rcases oneA_cases h0 h1 hp with ⟨k, hk, hh, hz, e⟩ | ⟨hno, e⟩
  · have e2 := fitN_app m h0 h1 (u := wd ss k) (.inr hh)
    rcases oneA_cases (t := t ++ m) h0 (by omega) hp with ⟨k', hk', hh', hz', e'⟩ | ⟨hno', e'⟩
    · have : k' = k := by
        rcases Nat.lt_or_ge k k' with q | q
        · exact (not_bothA h0 hp hk' hk (by omega) hh' (by rw [e2]; exact hh)).elim
        · rcases Nat.lt_or_ge k' k with q2 | q2
          · exact (not_bothA h0 hp hk' hk (by omega) hh' (by rw [e2]; exact hh)).elim
          · omega
      subst this
      rw [e', e, e2]
    · exact absurd (e2.trans hh) (hno' k hk)
  · rw [e] at h
    simp only [] at h
    have hE : endE t a ss ss.length = 2 := by
      rcases h with h | h
      · exact h
      · unfold endE at h; split at h <;> omega
    have hm := mostN_le (t := t) (a := a) ss h1 ss.length
    have hlt : a + mostN t a ss ss.length < t.size := by
      unfold endE at hE
      split at hE
      · omega
      · rename_i hc
        rcases (show a + mostN t a ss ss.length < t.size ∨ a + mostN t a ss ss.length = t.size by omega) with h' | h'
        · exact h'
        · exact absurd ⟨n0, by omega⟩ hc
    have fs : ∀ j, j < ss.length → fitN (t ++ m) a (wd ss j) = fitN t a (wd ss j) := fun j hj => fitN_app m h0 h1 (.inl (by have := mostA_bd (t := t) (a := a) (ss := ss) ss.length j hj; omega))
    rcases oneA_cases (t := t ++ m) h0 (by omega) hp with ⟨k', hk', hh', hz', e'⟩ | ⟨hno', e'⟩
    · exact absurd ((fs k' hk').symm.trans hh') (hno k' hk')
    · rw [e', e, mostA_same _ fs]
      congr 2
      unfold endE
      rw [mostA_same _ fs, if_neg (by omega), if_neg (by omega)]
theorem oneA_late (m : ByteArray) (h0 : 0 ≤ a) (h1 : a ≤ t.size) (hp : apartB ss = true) (h : (oneZ t a ss).2.2 = 1) : (t.size : Int) ≤ (oneZ (t ++ m) a ss).1 := by
  have n0 := apart_pos hp
  have hs := size_app t m
  have hm := mostN_le (t := t) (a := a) ss h1 ss.length
  rcases oneA_cases h0 h1 hp with ⟨k, hk, hh, hz, e⟩ | ⟨hno, e⟩
  · rw [e] at h; simp at h
  · rw [e] at h
    simp only [] at h
    have hend : a + mostN t a ss ss.length = t.size := by
      unfold endE at h
      split at h
      · rename_i hc; exact hc.2
      · omega
    have ge : ∀ j, j < ss.length → fitN t a (wd ss j) ≤ fitN (t ++ m) a (wd ss j) := fun j hj => fitN_ge h0 h1
    rcases oneA_cases (t := t ++ m) h0 (by omega) hp with ⟨k', hk', hh', hz', e'⟩ | ⟨hno', e'⟩
    · rw [e']
      simp only []
      have b := fitN_le (t := t) (a := a) (wd ss k') h1
      rcases (show a + fitN t a (wd ss k') < t.size ∨ a + fitN t a (wd ss k') = t.size by omega) with q | q
      · exact absurd ((fitN_app m h0 h1 (u := wd ss k') (.inl q)).symm.trans hh') (hno k' hk')
      · have := ge k' hk'; omega
    · rw [e']
      simp only []
      have := mostA_le (t := t) (a := a) (ss := ss) ss.length ge
      omega
theorem wordA_bd (h0 : 0 ≤ a) (h1 : a ≤ t.size) (hu : 0 < u.size) : a ≤ (wordZ t a u).1 ∧ (wordZ t a u).1 ≤ t.size ∧ ((wordZ t a u).2.2 = 0 ∨ (wordZ t a u).2.2 = 1 ∨ (wordZ t a u).2.2 = 2) ∧
    ((wordZ t a u).2.2 = 0 → a < (wordZ t a u).1) ∧ ((wordZ t a u).2.2 = 1 → (wordZ t a u).1 = t.size) ∧ ((wordZ t a u).2.2 = 2 → (wordZ t a u).1 < t.size) := by
  have b := fitN_le (t := t) (a := a) u h1
  unfold wordZ
  rw [if_pos ⟨h0, h1⟩]
  simp only [wdE]
  refine ⟨?_, ?_, ?_, fun h_ => ?_, fun h_ => ?_, fun h_ => ?_⟩
  · omega
  · omega
  · (repeat' split) <;> omega
  all_goals ((repeat' split at h_) <;> omega)
theorem wordA_late (m : ByteArray) (h0 : 0 ≤ a) (h1 : a ≤ t.size) (h : (wordZ t a u).2.2 = 1) : (t.size : Int) ≤ (wordZ (t ++ m) a u).1 := by
  have b := fitN_le (t := t) (a := a) u h1
  have hs := size_app t m
  have g := fitN_ge (m := m) (u := u) h0 h1
  unfold wordZ at h ⊢
  rw [if_pos ⟨h0, h1⟩] at h
  rw [if_pos ⟨h0, by omega⟩]
  simp only [wdE] at h ⊢
  (repeat' split at h) <;> omega
end
end Go.Proofs.Ytaipghemddjecaa
