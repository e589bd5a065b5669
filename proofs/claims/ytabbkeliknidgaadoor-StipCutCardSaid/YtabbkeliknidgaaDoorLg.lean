/- Plain laws on texts that go on. -/
import Derived.Test.YtabbkeliknidgaaDoorLv
namespace Go.Proofs.YtabbkeliknidgaaDoor
open Go.RowKit
set_option linter.unusedVariables false
set_option linter.unusedSimpArgs false
theorem fitF_eq (t u : ByteArray) : ∀ (f : Nat) (n : Int), 0 ≤ n → ∀ i : Nat, n ≤ i → (i : Int) < fitF t 0 u f n → bt t i = bt u i
  | 0, n, h0, i, h1, h2 => by unfold fitF at h2; omega
  | f + 1, n, h0, i, h1, h2 => by
    unfold fitF at h2
    split at h2
    · rename_i hc
      by_cases e : (i : Int) = n
      · have := hc.2; rw [show ((0 : Int) + n).toNat = i by omega, show n.toNat = i by omega] at this; exact this
      · exact fitF_eq t u f (n + 1) (by omega) i (by omega) h2
    · omega
theorem fitF_ne (t u : ByteArray) : ∀ (f : Nat) (n : Int), 0 ≤ n → n + f = u.size → fitF t 0 u f n < u.size → fitF t 0 u f n < t.size → bt t (fitF t 0 u f n).toNat ≠ bt u (fitF t 0 u f n).toNat
  | 0, n, h0, hf, h1, h2 => by unfold fitF at h1; omega
  | f + 1, n, h0, hf, h1, h2 => by
    unfold fitF at h1 h2 ⊢
    split
    · rename_i hc
      rw [if_pos hc] at h1 h2
      exact fitF_ne t u f (n + 1) (by omega) (by omega) h1 h2
    · rename_i hc
      rw [if_neg hc] at h1 h2
      intro e
      exact hc ⟨by omega, by rw [show (0 : Int) + n = n by omega]; exact e⟩
theorem fit_eq (t u : ByteArray) {i : Nat} (h : (i : Int) < fitN t 0 u) : bt t i = bt u i := fitF_eq t u u.size 0 (by omega) i (by omega) h
theorem fit_ne (t u : ByteArray) (h1 : fitN t 0 u < u.size) (h2 : fitN t 0 u < t.size) : bt t (fitN t 0 u).toNat ≠ bt u (fitN t 0 u).toNat := fitF_ne t u u.size 0 (by omega) (by omega) h1 h2
theorem fit_bd (t u : ByteArray) : 0 ≤ fitN t 0 u ∧ fitN t 0 u ≤ u.size ∧ fitN t 0 u ≤ t.size := by
  have := fitN_le (t := t) (a := 0) u (by omega); omega
theorem fit_uniq (t u : ByteArray) (m : Nat) (h1 : m ≤ u.size) (h2 : m ≤ t.size) (he : ∀ i : Nat, i < m → bt t i = bt u i) (hn : m < u.size → m < t.size → bt t m ≠ bt u m) : fitN t 0 u = m := by
  have b := fit_bd t u
  rcases (show fitN t 0 u < m ∨ fitN t 0 u = m ∨ (m : Int) < fitN t 0 u by omega) with h | h | h
  · exact absurd (he (fitN t 0 u).toNat (by omega)) (fit_ne t u (by omega) (by omega))
  · exact h
  · exact absurd (fit_eq t u h) (hn (by omega) (by omega))
theorem bt_app (t m : ByteArray) {i : Nat} (h : i < t.size) : bt (t ++ m) i = bt t i := by
  have h' : i < t.data.toList.length := by simpa using h
  unfold bt
  rw [show (t ++ m).data.toList = t.data.toList ++ m.data.toList by simp]
  rw [List.getD_eq_getElem?_getD, List.getD_eq_getElem?_getD, List.getElem?_append_left h']
theorem size_app (t m : ByteArray) : (t ++ m).size = t.size + m.size := by simp
/-- where the text is wrong within, nothing behind it matters. -/
theorem fit_app {t u : ByteArray} (m : ByteArray) (h : fitN t 0 u < t.size ∨ fitN t 0 u = u.size) : fitN (t ++ m) 0 u = fitN t 0 u := by
  have b := fit_bd t u
  have r := fit_uniq (t ++ m) u (fitN t 0 u).toNat (by omega) (by rw [size_app]; omega) (fun i hi => by rw [bt_app t m (by omega)]; exact fit_eq t u (by omega)) (fun h1 h2 => by
    rcases h with h | h
    · rw [bt_app t m (by omega)]; exact fit_ne t u (by omega) h
    · omega)
  rw [r]; omega
theorem bt_list {t h : ByteArray} (hs : t.size = h.size) (he : ∀ i : Nat, i < t.size → bt t i = bt h i) : t.data.toList = h.data.toList := by
  apply List.ext_getElem (by simpa using hs)
  intro i h1 h2
  have := he i (by simpa using h1)
  unfold bt at this
  rw [List.getD_eq_getElem?_getD, List.getD_eq_getElem?_getD, List.getElem?_eq_getElem h1, List.getElem?_eq_getElem h2] at this
  simp only [Option.getD_some] at this
  exact UInt8.toNat_inj.1 (by omega)
theorem ext_list (t : ByteArray) (n : Nat) : (t.extract 0 n).data.toList = t.data.toList.take n := by
  simp [ByteArray.data_extract]
theorem ext_bt (t : ByteArray) {n i : Nat} (h : i < n) : bt (t.extract 0 n) i = bt t i := by
  unfold bt
  rw [ext_list, List.getD_eq_getElem?_getD, List.getD_eq_getElem?_getD, List.getElem?_take, if_pos h]
theorem ext_eq {t h : ByteArray} (hs : h.size ≤ t.size) : (t.extract 0 h.size).toList = h.toList ↔ ∀ i : Nat, i < h.size → bt t i = bt h i := by
  rw [ByteArray.toList_eq, ByteArray.toList_eq]
  constructor
  · intro e i hi
    rw [← ext_bt t hi]
    unfold bt
    rw [e]
  · intro e
    refine bt_list (t := t.extract 0 h.size) (h := h) (by simp; omega) (fun i hi => ?_)
    have hi' : i < h.size := by simp at hi; omega
    rw [ext_bt t hi']; exact e i hi'
theorem beg_is {t h : ByteArray} : begB t h = true ↔ h.size ≤ t.size ∧ ∀ i : Nat, i < h.size → bt t i = bt h i := by
  unfold begB
  rw [Bool.and_eq_true, decide_eq_true_eq, beq_iff_eq]
  constructor
  · rintro ⟨h1, h2⟩; exact ⟨h1, (ext_eq h1).1 h2⟩
  · rintro ⟨h1, h2⟩; exact ⟨h1, (ext_eq h1).2 h2⟩
/-- two words that a text begins with: one begins with the other. -/
theorem both_beg {t u v : ByteArray} (hu : fitN t 0 u = u.size) (hv : fitN t 0 v = v.size) (h : u.size ≤ v.size) : begB v u = true :=
  beg_is.2 ⟨h, fun i hi => by rw [← fit_eq t v (by omega), ← fit_eq t u (by omega)]⟩
theorem not_both {ss : List ByteArray} (hp : apartB ss = true) {t : ByteArray} {i k : Nat} (hi : i < ss.length) (hk : k < ss.length) (hne : i ≠ k) (h1 : fitN t 0 (wd ss i) = (wd ss i).size) (h2 : fitN t 0 (wd ss k) = (wd ss k).size) : False := by
  have A := apart_at hp hi hk
  have B := apart_at hp hk hi
  unfold badW at A B
  rw [Bool.or_eq_false_iff, decide_eq_true hne, Bool.true_and] at A
  rw [Bool.or_eq_false_iff, decide_eq_true (show k ≠ i by omega), Bool.true_and] at B
  rcases Nat.le_total (wd ss i).size (wd ss k).size with h | h
  · rw [both_beg h1 h2 h] at A; exact absurd A.2 (by decide)
  · rw [both_beg h2 h1 h] at B; exact absurd B.2 (by decide)
/-- what oneF tells, by cases. -/
theorem oneF_hit {t : ByteArray} {ss : List ByteArray} {k : Nat} (hk : fitN t 0 (wd ss k) = (wd ss k).size) : ∀ (d i : Nat), i ≤ k → k < i + d → (∀ j, i ≤ j → j < k → fitN t 0 (wd ss j) ≠ (wd ss j).size) → oneF t 0 ss d i = (fitN t 0 (wd ss k), (k : Int), 0)
  | 0, i, h1, h2, h3 => by omega
  | d + 1, i, h1, h2, h3 => by
    unfold oneF
    by_cases e : i = k
    · subst e; rw [if_pos hk]; simp
    · rw [if_neg (h3 i (Nat.le_refl _) (by omega))]
      exact oneF_hit hk d (i + 1) (by omega) (by omega) (fun j a b => h3 j (by omega) b)
theorem oneF_miss {t : ByteArray} {ss : List ByteArray} : ∀ (d i : Nat), (∀ j, i ≤ j → j < i + d → fitN t 0 (wd ss j) ≠ (wd ss j).size) → oneF t 0 ss d i = (mostN t 0 ss (i + d), 0, endE t 0 ss (i + d))
  | 0, i, h => by unfold oneF; simp
  | d + 1, i, h => by
    unfold oneF
    rw [if_neg (h i (Nat.le_refl _) (by omega)), oneF_miss d (i + 1) (fun j a b => h j (by omega) (by omega)), show i + 1 + d = i + (d + 1) by omega]
theorem mostN_bd {t : ByteArray} {ss : List ByteArray} : ∀ (k j : Nat), j < k → fitN t 0 (wd ss j) ≤ mostN t 0 ss k
  | k + 1, j, h => by
    unfold mostN
    rcases (show j < k ∨ j = k by omega) with h' | rfl
    · have := mostN_bd k j h' (t := t) (ss := ss); omega
    · omega
theorem mostN_at {t : ByteArray} {ss : List ByteArray} : ∀ (k : Nat), 0 < mostN t 0 ss k → ∃ j, j < k ∧ fitN t 0 (wd ss j) = mostN t 0 ss k
  | 0, h => by unfold mostN at h; omega
  | k + 1, h => by
    unfold mostN at h ⊢
    by_cases e : mostN t 0 ss k < fitN t 0 (wd ss k)
    · exact ⟨k, by omega, by omega⟩
    · obtain ⟨j, h1, h2⟩ := mostN_at k (t := t) (ss := ss) (by omega)
      exact ⟨j, by omega, by omega⟩
theorem most_same {t t' : ByteArray} {ss : List ByteArray} : ∀ (k : Nat), (∀ j, j < k → fitN t' 0 (wd ss j) = fitN t 0 (wd ss j)) → mostN t' 0 ss k = mostN t 0 ss k
  | 0, _ => rfl
  | k + 1, h => by unfold mostN; rw [most_same k (fun j hj => h j (by omega)), h k (by omega)]
theorem first_hit (p : Nat → Prop) [DecidablePred p] : ∀ n : Nat, (∃ k, k < n ∧ p k ∧ ∀ j, j < k → ¬ p j) ∨ ∀ j, j < n → ¬ p j
  | 0 => .inr fun j hj => by omega
  | n + 1 => by
    rcases first_hit p n with ⟨k, h1, h2, h3⟩ | h
    · exact .inl ⟨k, by omega, h2, h3⟩
    · by_cases hp : p n
      · exact .inl ⟨n, by omega, hp, h⟩
      · refine .inr fun j hj => ?_
        rcases (show j < n ∨ j = n by omega) with h' | rfl
        · exact h j h'
        · exact hp
theorem apart_pos {ss : List ByteArray} (hp : apartB ss = true) : 0 < ss.length := by
  unfold apartB at hp
  rw [Bool.and_eq_true] at hp
  exact of_decide_eq_true hp.1
theorem apart_full {ss : List ByteArray} (hp : apartB ss = true) {i : Nat} (hi : i < ss.length) : 0 < (wd ss i).size := by
  have A := apart_at hp hi hi
  unfold badW at A
  rw [Bool.or_eq_false_iff] at A
  have := A.1
  rcases Nat.eq_zero_or_pos (wd ss i).size with h | h
  · exfalso
    rw [ByteArray.toList_eq] at this
    have e : (wd ss i).data.toList = [] := List.eq_nil_of_length_eq_zero (by simpa using h)
    rw [e] at this; cases this
  · exact h
theorem one_in {t : ByteArray} {ss : List ByteArray} (hp : apartB ss = true) : oneZ t 0 ss = oneF t 0 ss ss.length 0 := by
  unfold oneZ; rw [if_pos ⟨⟨by omega, by omega⟩, hp⟩]
/-- where it ends whole, or is wrong, what comes behind does not matter. -/
theorem one_goes {t : ByteArray} {ss : List ByteArray} (m : ByteArray) (hp : apartB ss = true) (h : (oneZ t 0 ss).2.2 = 2 ∨ (oneZ t 0 ss).2.2 = 0) : oneZ (t ++ m) 0 ss = oneZ t 0 ss := by
  have n0 := apart_pos hp
  rw [one_in hp] at h ⊢
  rw [one_in hp]
  rcases first_hit (fun k => fitN t 0 (wd ss k) = (wd ss k).size) ss.length with ⟨k, hk, hhit, hbef⟩ | hno
  · rw [oneF_hit hhit ss.length 0 (by omega) (by omega) (fun j _ hj => hbef j hj)]
    have e := fit_app m (t := t) (u := wd ss k) (.inr hhit)
    rw [oneF_hit (t := t ++ m) (k := k) (by rw [e]; exact hhit) ss.length 0 (by omega) (by omega) (fun j _ hj hc => not_both hp (by omega) hk (by omega) hc (by rw [e]; exact hhit)), e]
  · rw [oneF_miss ss.length 0 (fun j _ hj => hno j (by omega)), Nat.zero_add] at h ⊢
    have hE : endE t 0 ss ss.length = 2 := by
      rcases h with h | h
      · exact h
      · unfold endE at h; simp only [] at h; split at h <;> omega
    have hlt : mostN t 0 ss ss.length < t.size := by
      have := mostN_le (t := t) (a := 0) ss (by omega) ss.length
      unfold endE at hE
      split at hE
      · omega
      · rename_i hc
        rcases (show mostN t 0 ss ss.length < t.size ∨ mostN t 0 ss ss.length = t.size by omega) with h' | h'
        · exact h'
        · exact absurd ⟨n0, by omega⟩ hc
    have fs : ∀ j, j < ss.length → fitN (t ++ m) 0 (wd ss j) = fitN t 0 (wd ss j) := fun j hj => fit_app m (.inl (by have := mostN_bd (t := t) (ss := ss) ss.length j hj; omega))
    rw [oneF_miss (t := t ++ m) ss.length 0 (fun j _ hj => by rw [fs j (by omega)]; exact hno j (by omega)), Nat.zero_add, most_same _ fs]
    congr 2
    unfold endE
    rw [most_same _ fs, if_neg (by rw [size_app]; omega), if_neg (by omega)]
/-- where it ends within, some word goes on. -/
theorem one_ends {t : ByteArray} {ss : List ByteArray} (hp : apartB ss = true) (h : (oneZ t 0 ss).2.2 = 1) : ∃ j, j < ss.length ∧ t.size < (wd ss j).size ∧ ((wd ss j).extract 0 t.size).toList = t.toList := by
  have n0 := apart_pos hp
  rw [one_in hp] at h
  rcases first_hit (fun k => fitN t 0 (wd ss k) = (wd ss k).size) ss.length with ⟨k, hk, hhit, hbef⟩ | hno
  · rw [oneF_hit hhit ss.length 0 (by omega) (by omega) (fun j _ hj => hbef j hj)] at h
    simp at h
  · rw [oneF_miss ss.length 0 (fun j _ hj => hno j (by omega)), Nat.zero_add] at h
    simp only [endE] at h
    have hm : (0 : Int) + mostN t 0 ss ss.length = t.size := by
      split at h
      · rename_i hc; exact hc.2
      · omega
    by_cases hz : t.size = 0
    · refine ⟨0, n0, by have := apart_full hp n0; omega, (ext_eq (by omega)).2 (fun i hi => by omega)⟩
    · obtain ⟨j, hj, he⟩ := mostN_at (t := t) (ss := ss) ss.length (by omega)
      have b := fit_bd t (wd ss j)
      have hne := hno j hj
      refine ⟨j, hj, by omega, (ext_eq (by omega)).2 (fun i hi => (fit_eq t (wd ss j) (by omega)).symm)⟩
/-- a word reads itself. -/
theorem fit_self (u : ByteArray) : fitN u 0 u = u.size := fit_uniq u u u.size (Nat.le_refl _) (Nat.le_refl _) (fun _ _ => rfl) (fun h => by omega)
theorem one_self {ss : List ByteArray} (hp : apartB ss = true) {j : Nat} (hj : j < ss.length) : (oneZ (wd ss j) 0 ss).2.2 = 0 := by
  rw [one_in hp]
  rcases first_hit (fun k => fitN (wd ss j) 0 (wd ss k) = (wd ss k).size) ss.length with ⟨k, hk, hhit, hbef⟩ | hno
  · rw [oneF_hit hhit ss.length 0 (by omega) (by omega) (fun i _ hi => hbef i hi)]
  · exact absurd (fit_self _) (hno j hj)
theorem one_kinds {t : ByteArray} {ss : List ByteArray} : (oneZ t 0 ss).2.2 = 0 ∨ (oneZ t 0 ss).2.2 = 1 ∨ (oneZ t 0 ss).2.2 = 2 ∨ (oneZ t 0 ss).2.2 = 5 := by
  by_cases hp : apartB ss = true
  · rw [one_in hp]
    rcases first_hit (fun k => fitN t 0 (wd ss k) = (wd ss k).size) ss.length with ⟨k, hk, hhit, hbef⟩ | hno
    · rw [oneF_hit hhit ss.length 0 (by omega) (by omega) (fun j _ hj => hbef j hj)]; simp
    · rw [oneF_miss ss.length 0 (fun j _ hj => hno j (by omega))]
      simp only [endE]; split <;> simp
  · unfold oneZ; rw [if_neg (fun h => hp h.2)]; simp
theorem one_kinds' {t : ByteArray} {ss : List ByteArray} (hp : apartB ss = true) : (oneZ t 0 ss).2.2 = 0 ∨ (oneZ t 0 ss).2.2 = 1 ∨ (oneZ t 0 ss).2.2 = 2 := by
  rw [one_in hp]
  rcases first_hit (fun k => fitN t 0 (wd ss k) = (wd ss k).size) ss.length with ⟨k, hk, hhit, hbef⟩ | hno
  · rw [oneF_hit hhit ss.length 0 (by omega) (by omega) (fun j _ hj => hbef j hj)]; simp
  · rw [oneF_miss ss.length 0 (fun j _ hj => hno j (by omega))]
    simp only [endE]; split <;> simp
end Go.Proofs.YtabbkeliknidgaaDoor
