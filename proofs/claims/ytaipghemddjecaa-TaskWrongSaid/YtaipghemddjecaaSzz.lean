import Derived.Test.YtaipghemddjecaaLnnz
import Derived.Test.YtaipghemddjecaaLgz
import Derived.Test.YtaipghemddjecaaS1wz
namespace Go.Proofs.Ytaipghemddjecaa
open Go.RowKit
set_option linter.unusedVariables false
set_option linter.unusedSimpArgs false
theorem fitF_app {t u : ByteArray} {a : Int} (m : ByteArray) (h0 : 0 ≤ a) : ∀ (f : Nat) (n : Int), 0 ≤ n → a + n ≤ t.size → (a + fitF t a u f n < t.size ∨ fitF t a u f n = n + f) → fitF (t ++ m) a u f n = fitF t a u f n
  | 0, n, _, _, _ => rfl
  | f + 1, n, h1, h2, h3 => by
    unfold fitF at h3 ⊢
    by_cases hc : a + n < t.size ∧ bt t (a + n).toNat = bt u n.toNat
    · rw [if_pos hc] at h3 ⊢
      rw [if_pos ⟨by rw [size_app]; omega, by rw [bt_app t m (by omega)]; exact hc.2⟩]
      exact fitF_app m h0 f (n + 1) (by omega) (by omega) (by omega)
    · rw [if_neg hc] at h3 ⊢
      rw [if_neg]
      rintro ⟨_, h5⟩
      rw [bt_app t m (by omega)] at h5
      exact hc ⟨by omega, h5⟩
theorem word_app {t u : ByteArray} {a : Int} (m : ByteArray) (h : (wordZ t a u).2.2 = 2 ∨ (wordZ t a u).2.2 = 0) : wordZ (t ++ m) a u = wordZ t a u := by
  unfold wordZ at h ⊢
  by_cases ha : 0 ≤ a ∧ a ≤ t.size
  · have b := fitN_le (t := t) (a := a) u ha.2
    rw [if_pos ha] at h ⊢
    rw [if_pos ⟨ha.1, by rw [size_app]; omega⟩]
    have e : fitN (t ++ m) a u = fitN t a u := by
      refine fitF_app m ha.1 u.size 0 (by omega) (by omega) ?_
      rw [show fitF t a u u.size 0 = fitN t a u from rfl]
      simp only [wdE] at h
      rcases h with h | h
      · split at h
        · omega
        · split at h
          · omega
          · left; omega
      · split at h
        · right; omega
        · split at h <;> omega
    rw [e]
    congr 2
    simp only [wdE] at h ⊢
    rw [size_app]
    (repeat' split) <;> first | rfl | omega
  · rw [if_neg ha] at h; simp at h
theorem numF_s (t : ByteArray) (a least most : Int) (d : Nat) (i n : Int) : numF t a least most (d + 1) i n = if 48 ≤ bt t i.toNat ∧ bt t i.toNat ≤ 57 then
      (if (i > a ∧ n = 0) ∨ (i = a ∧ 10 * n + (bt t i.toNat - 48) = 0 ∧ least > 0) ∨ 10 * n + (bt t i.toNat - 48) > most then (i, 0, 2) else numF t a least most d (i + 1) (10 * n + (bt t i.toNat - 48)))
      else numEnd t a least i n := rfl
theorem numF_app {t : ByteArray} {a least most : Int} (m : ByteArray) (h0 : 0 ≤ a) (e : Nat) : ∀ (d : Nat) (i n : Int), 0 ≤ i → i + d = t.size →
    (∃ n', numF t a least most d i n = numEnd t a least t.size n' ∧ numF (t ++ m) a least most (d + e) i n = numF (t ++ m) a least most e t.size n') ∨
    ((numF t a least most d i n).1 < t.size ∧ numF (t ++ m) a least most (d + e) i n = numF t a least most d i n)
  | 0, i, n, h1, h2 => .inl ⟨n, by unfold numF; rw [show i = (t.size : Int) by omega], by rw [Nat.zero_add, show i = (t.size : Int) by omega]⟩
  | d + 1, i, n, h1, h2 => by
    have hb : bt (t ++ m) i.toNat = bt t i.toNat := bt_app t m (by omega)
    rw [show d + 1 + e = (d + e) + 1 by omega, numF_s, numF_s, hb]
    by_cases hd : 48 ≤ bt t i.toNat ∧ bt t i.toNat ≤ 57
    · rw [if_pos hd, if_pos hd]
      split
      · exact .inr ⟨by show i < (t.size : Int); omega, rfl⟩
      · exact numF_app (t := t) m h0 e d (i + 1) _ (by omega) (by omega)
    · rw [if_neg hd, if_neg hd]
      refine .inr ⟨?_, ?_⟩
      · unfold numEnd; (repeat' split) <;> (show i < (t.size : Int); omega)
      · unfold numEnd; rw [size_app]; (repeat' split) <;> first | rfl | omega
theorem num_app {t : ByteArray} {a least most : Int} (m : ByteArray) (h : (numZ t a least most).1 < t.size) (h5 : (numZ t a least most).2.2 ≠ 5) : numZ (t ++ m) a least most = numZ t a least most := by
  unfold numZ at h h5 ⊢
  by_cases hc : (0 ≤ a ∧ a ≤ (t.size : Int)) ∧ 0 ≤ least ∧ least ≤ most ∧ most ≤ 1000000
  · rw [if_pos hc] at h ⊢
    rw [if_pos (show (0 ≤ a ∧ a ≤ ((t ++ m).size : Int)) ∧ 0 ≤ least ∧ least ≤ most ∧ most ≤ 1000000 from ⟨⟨hc.1.1, by have := size_app t m; omega⟩, hc.2⟩)]
    have hs := size_app t m
    rw [show (t ++ m).size - a.toNat = (t.size - a.toNat) + m.size by omega]
    rcases numF_app (t := t) (least := least) (most := most) m hc.1.1 m.size (t.size - a.toNat) a 0 hc.1.1 (by omega) with ⟨n', h1, h2⟩ | ⟨h1, h2⟩
    · rw [h1] at h; unfold numEnd at h; (repeat' split at h) <;> simp at h
    · exact h2
  · rw [if_neg hc] at h5; simp at h5
def wordsL : List ByteArray := [⟨#[35]⟩, ⟨#[61]⟩, ⟨#[115, 35]⟩, ⟨#[115, 61]⟩, ⟨#[114, 35]⟩, ⟨#[114, 61]⟩, ⟨#[115, 101, 109, 105, 45, 114, 35]⟩, ⟨#[115, 101, 109, 105, 45, 114, 61]⟩, ⟨#[104, 35]⟩, ⟨#[104, 61]⟩, ⟨#[115, 101, 114, 45, 104, 35]⟩, ⟨#[115, 101, 114, 45, 104, 61]⟩, ⟨#[115, 101, 114, 45, 35]⟩, ⟨#[115, 101, 114, 45, 61]⟩, ⟨#[100, 105, 97, 32]⟩]
def stipsL : List (Int × Int × Int × Bool) := [(1, 1, 0, false), (1, 2, 0, false), (2, 1, 0, false), (2, 2, 0, false), (3, 1, 0, false), (3, 2, 0, false), (4, 1, 0, false), (4, 2, 0, false), (5, 1, 0, false), (5, 2, 0, false), (6, 1, 0, false), (6, 2, 0, false), (7, 1, 0, false), (7, 2, 0, false), (8, 0, 0, false)]
theorem words_are : i_stip_words.f 30000 = some (wordsL, stipsL) := by decide +kernel
theorem words_apart : apartB wordsL = true := by decide +kernel
theorem words_size : ∀ i, i < wordsL.length → (wd wordsL i).size ≤ 1000 := by decide
def dotFive : ByteArray := ⟨#[46, 53]⟩
abbrev StipZ := Int × Int × Int × Bool × Int × Int × Int
def stipF (t : ByteArray) (x : Int × Int × Int) : StipZ :=
  if x.2.2 = 0 then
    let s := nt stipsL x.2.1.toNat (0, 0, 0, false)
    if s.1 = 5 then
      let m := numZ t x.1 0 64
      if m.2.2 = 0 then
        if m.2.1 = 0 then
          let e := wordZ t m.1 dotFive
          if e.2.2 = 0 then (s.1, s.2.1, m.2.1, true, e.1, 0, 0) else (0, 0, 0, false, e.1, e.2.1, e.2.2)
        else if m.1 < t.size ∧ bt t m.1.toNat = 46 then
          let e := wordZ t m.1 dotFive
          if e.2.2 = 0 then (s.1, s.2.1, m.2.1, true, e.1, 0, 0) else (0, 0, 0, false, e.1, 0, e.2.2)
        else (s.1, s.2.1, m.2.1, false, m.1, 0, 0)
      else (0, 0, 0, false, m.1, m.2.1, m.2.2)
    else
      let m := numZ t x.1 1 64
      if m.2.2 = 0 then (s.1, s.2.1, m.2.1, s.2.2.2, m.1, 0, 0) else (0, 0, 0, false, m.1, m.2.1, m.2.2)
  else (0, 0, 0, false, x.1, x.2.1, x.2.2)
def stipZ (t : ByteArray) (a : Int) : StipZ := stipF t (oneZ t a wordsL)
theorem oneF_n {t : ByteArray} {a : Int} {ss : List ByteArray} : ∀ (f k : Nat), k + f = ss.length → (oneF t a ss f k).2.2 = 0 → 0 ≤ (oneF t a ss f k).2.1 ∧ (oneF t a ss f k).2.1 < ss.length
  | 0, k, h, h0 => by unfold oneF endE at h0; simp only [] at h0; split at h0 <;> omega
  | f + 1, k, h, h0 => by
    unfold oneF at h0 ⊢
    split
    · simp only []; omega
    · rename_i hc
      rw [if_neg hc] at h0
      exact oneF_n f (k + 1) (by omega) h0
theorem one_n {t : ByteArray} {a : Int} {ss : List ByteArray} (h0 : (oneZ t a ss).2.2 = 0) : 0 ≤ (oneZ t a ss).2.1 ∧ (oneZ t a ss).2.1 < ss.length := by
  unfold oneZ at h0 ⊢
  split
  · rename_i hc
    rw [if_pos hc] at h0
    exact oneF_n ss.length 0 (by omega) h0
  · rename_i hc
    rw [if_neg hc] at h0; simp at h0
theorem numF_ge {t : ByteArray} {a least most : Int} : ∀ (d : Nat) (i n : Int), i ≤ (numF t a least most d i n).1
  | 0, i, n => by unfold numF numEnd; (repeat' split) <;> exact Int.le_refl _
  | d + 1, i, n => by
    unfold numF
    split
    · split
      · exact Int.le_refl _
      · have := numF_ge (t := t) (a := a) (least := least) (most := most) d (i + 1) (10 * n + (bt t i.toNat - 48)); omega
    · unfold numEnd; (repeat' split) <;> exact Int.le_refl _
theorem num_ge {t : ByteArray} {a least most : Int} (h : (numZ t a least most).2.2 ≠ 5) : a ≤ (numZ t a least most).1 ∧ 0 ≤ a := by
  unfold numZ at h ⊢
  split
  · rename_i hc; exact ⟨numF_ge _ _ _, hc.1.1⟩
  · rename_i hc; rw [if_neg hc] at h; simp at h
theorem halved_is {t : ByteArray} {a : Int} (ht : t.size ≤ 1000) (h0 : 0 ≤ a) : i_stip_halved.f 30000 t a = some (if a < t.size ∧ bt t a.toNat = 46 then ((wordZ t a dotFive).1, 1, (wordZ t a dotFive).2.2) else (a, 0, 0)) := by
  unfold i_stip_halved.f
  by_cases h : a < (t.size : Int)
  · rw [if_pos h, if_pos h0, word_is ht (by decide) (by decide)]
    by_cases hb : bt t a.toNat = 46
    · rw [if_pos (show bt t a.toNat = bt ⟨#[46, 53]⟩ 0 from hb), if_pos ⟨h, hb⟩]; rfl
    · rw [if_neg (show ¬ bt t a.toNat = bt ⟨#[46, 53]⟩ 0 from hb), if_neg (fun h' => hb h'.2)]
  · rw [if_neg h, if_neg (fun h' => h h'.1)]
theorem stip_is {t : ByteArray} {a : Int} (ht : t.size ≤ 1000) : i_stip_Read.f 30000 t a = some (stipZ t a) := by
  unfold i_stip_Read.f stipZ stipF
  rw [words_are]
  simp only [Option.bind_some]
  rw [(one_is (t := t) (a := a) (ss := wordsL) ht (by decide) words_size (k := 30000) (by decide)).1]
  simp only [Option.bind_some]
  by_cases hE : (oneZ t a wordsL).2.2 = 0
  · have hn := one_n hE
    rw [if_pos hE, if_pos hE, if_pos hn.1, if_pos (show (oneZ t a wordsL).2.1 < (stipsL.length : Int) from hn.2)]
    by_cases h5 : (nt stipsL (oneZ t a wordsL).2.1.toNat (0, 0, 0, false)).1 = 5
    · rw [if_pos h5, if_pos h5, (num_is (t := t) (a := (oneZ t a wordsL).1) (least := 0) (most := 64) ht (k := 30000) (by omega)).1]
      simp only [Option.bind_some]
      by_cases hm : (numZ t (oneZ t a wordsL).1 0 64).2.2 = 0
      · have hge := num_ge (t := t) (a := (oneZ t a wordsL).1) (least := 0) (most := 64) (by omega)
        rw [if_pos hm, if_pos hm]
        by_cases h0 : (numZ t (oneZ t a wordsL).1 0 64).2.1 = 0
        · rw [if_pos h0, if_pos h0, word_is ht (by decide) (by decide)]
          simp only [Option.bind_some]
          by_cases he : (wordZ t (numZ t (oneZ t a wordsL).1 0 64).1 dotFive).2.2 = 0
          · rw [if_pos (show (wordZ t (numZ t (oneZ t a wordsL).1 0 64).1 ⟨#[46, 53]⟩).2.2 = 0 from he), if_pos he]; rfl
          · rw [if_neg (show ¬ (wordZ t (numZ t (oneZ t a wordsL).1 0 64).1 ⟨#[46, 53]⟩).2.2 = 0 from he), if_neg he]; rfl
        · rw [if_neg h0, if_neg h0, halved_is ht (by omega)]
          simp only [Option.bind_some]
          by_cases hd : (numZ t (oneZ t a wordsL).1 0 64).1 < (t.size : Int) ∧ bt t (numZ t (oneZ t a wordsL).1 0 64).1.toNat = 46
          · rw [if_pos hd, if_pos hd]
            by_cases he : (wordZ t (numZ t (oneZ t a wordsL).1 0 64).1 dotFive).2.2 = 0
            · rw [if_pos he, if_pos he]; rfl
            · rw [if_neg he, if_neg he]
          · rw [if_neg hd, if_neg hd, if_pos rfl]; rfl
      · rw [if_neg hm, if_neg hm]
    · rw [if_neg h5, if_neg h5, (num_is (t := t) (a := (oneZ t a wordsL).1) (least := 1) (most := 64) ht (k := 30000) (by omega)).1]
      simp only [Option.bind_some]
      by_cases hm : (numZ t (oneZ t a wordsL).1 1 64).2.2 = 0
      · rw [if_pos hm, if_pos hm]
      · rw [if_neg hm, if_neg hm]
  · rw [if_neg hE, if_neg hE]
end Go.Proofs.Ytaipghemddjecaa
