import Derived.Test.YtpjocgebnodnoaaCrz
import Derived.Test.YtpjocgebnodnoaaC2wz
namespace Go.Proofs.Ytpjocgebnodnoaa
open Go.RowKit
set_option linter.unusedVariables false
set_option linter.unusedSimpArgs false
theorem many_le (l : List Int) (kind side : Int) : manyZ l kind side ≤ 64 := cntK_le ..
theorem where_many (l : List Int) {kind side : Int} (h0 : 1 ≤ kind) (h1 : kind ≤ 6) (hs : side = 0 ∨ side = 1) : (whereK l (sg side kind) 64).length = manyZ l kind side := by
  rw [← many_rsum]
  rcases (show kind = 1 ∨ kind = 2 ∨ kind = 3 ∨ kind = 4 ∨ kind = 5 ∨ kind = 6 by omega) with rfl | rfl | rfl | rfl | rfl | rfl <;> rcases hs with rfl | rfl <;> simp [rsum, sg]
def pos0 (x : Int) : Int := if x < 0 then 0 else x
theorem pos0_bd (x : Int) : 0 ≤ pos0 x ∧ (pos0 x ≤ 0 ∨ pos0 x ≤ x) := by unfold pos0; split <;> omega
theorem step_pos {α : Type} (f : Int → α) {acc t c : Int} (h0 : 0 ≤ acc) (h1 : acc ≤ 1000) (h2 : 0 ≤ t) (h3 : t ≤ 1000) (h4 : 0 ≤ c) (h5 : c ≤ 1000) :
    (if wrap64 (t - c) < 0 then f (wrap64 (acc + 0)) else f (wrap64 (acc + wrap64 (t - c)))) = f (acc + pos0 (t - c)) := by
  rw [q64 (x := t - c) (by omega) (by omega), q64 (x := acc + 0) (by omega) (by omega)]
  unfold pos0
  split
  · rfl
  · rw [q64 (by omega) (by omega)]
def darkF (b : Bool) (s : Int) : Bool := decide ((s % 8 + s / 8) % 2 = 0) == b
def bcnt (l : List Int) (side : Int) (b : Bool) : Nat := ((whereZ l (sg side 3)).filter (darkF b)).length
theorem bcnt_le (l : List Int) (side : Int) (b : Bool) : bcnt l side b ≤ 64 := Nat.le_trans (List.length_filter_le _ _) (where_len _ _)
theorem qBish_l (b : Bool) {t : List Int} (ht : ∀ s ∈ t, 0 ≤ s ∧ s < 64) (hl : t.length ≤ 64) : ∀ (d j k n : Nat), j + d = t.length → d < k → n ≤ j →
    i_count_bishops.l0 k b t n j = some ((n + ((t.drop j).filter (darkF b)).length : Nat) : Int) := by
  intro d
  induction d with
  | zero => intro j k n hj hk hn; obtain ⟨k, rfl⟩ : ∃ i, k = i + 1 := ⟨k - 1, by omega⟩; rw [i_count_bishops.l0, if_neg (by omega), List.drop_eq_nil_of_le (by omega)]; rfl
  | succ d ih =>
    intro j k n hj hk hn; obtain ⟨k, rfl⟩ : ∃ i, k = i + 1 := ⟨k - 1, by omega⟩
    have hlt : j < t.length := by omega
    have hg : nt t j 0 = t[j] := by unfold nt; simp [List.getD, List.getElem?_eq_getElem hlt]
    have hb := ht _ (List.getElem_mem hlt)
    have hs1 : wrap64 ((j : Int) + 1) = ((j + 1 : Nat) : Int) := by rw [q64 (by omega) (by omega)]; rfl
    have hn1 : wrap64 ((n : Int) + 1) = ((n + 1 : Nat) : Int) := by rw [q64 (by omega) (by omega)]; rfl
    rw [i_count_bishops.l0, if_pos (by omega), if_pos (by omega), Int.toNat_natCast, hg, qDark hb.1 hb.2, Option.bind_some, hs1, hn1, ih (j + 1) k _ (by omega) (by omega) (by omega), ih (j + 1) k _ (by omega) (by omega) (by omega), List.drop_eq_getElem_cons hlt, List.filter_cons]
    unfold darkF
    split
    · rw [List.length_cons]; congr 2; omega
    · rfl
theorem qBish {l : List Int} (h : B8 l) {side : Int} (hs : side = 0 ∨ side = 1) (b : Bool) {k : Nat} (hk : 64 < k) : i_count_bishops.f k l side b = some (bcnt l side b : Int) := by
  rw [i_count_bishops.f, qmMake, Option.bind_some, make_sg (by omega) (by omega) hs, qbWhere h _ hk, Option.bind_some]
  have hl := where_len l (sg side 3)
  have := qBish_l b (t := whereZ l (sg side 3)) (fun s hs => mem_where hs) hl _ 0 k 0 (Nat.zero_add _) (by omega) (by omega)
  rw [Nat.zero_add, List.drop_zero] at this; exact this
def men3 (l : List Int) (side : Int) : Int := pos0 (manyZ l 2 side - 2) + pos0 (manyZ l 4 side - 2) + pos0 (manyZ l 5 side - 1)
def promZ (l : List Int) (side : Int) : Int := pos0 (bcnt l side true - 1) + pos0 (bcnt l side false - 1) + men3 l side
theorem qProm_l0 {l : List Int} (h : B8 l) (s : Int) {k : Nat} (hk : 70 < k) {acc : Int} (h0 : 0 ≤ acc) (h1 : acc ≤ 200) : i_count_Promoted.l0 k l s acc 0 = some (acc + men3 l s) := by
  obtain ⟨k, rfl⟩ : ∃ i, k = i + 4 := ⟨k - 4, by omega⟩
  have m2 := many_le l 2 s; have m4 := many_le l 4 s; have m5 := many_le l 5 s
  have p2 := pos0_bd (manyZ l 2 s - 2); have p4 := pos0_bd (manyZ l 4 s - 2)
  rw [i_count_Promoted.l0, if_pos (by omega), if_pos rfl, qbMany h 2 s (by omega), Option.bind_some, step_pos (fun a => i_count_Promoted.l0 (k + 3) l s a (wrap64 (0 + 1))) h0 (by omega) (by omega) (by omega) (by omega) (by omega), show wrap64 (0 + 1) = 1 by decide +kernel]
  rw [i_count_Promoted.l0, if_pos (by omega), if_neg (by omega), if_pos rfl, qbMany h 4 s (by omega), Option.bind_some, step_pos (fun a => i_count_Promoted.l0 (k + 2) l s a (wrap64 (1 + 1))) (by omega) (by omega) (by omega) (by omega) (by omega) (by omega), show wrap64 (1 + 1) = 2 by decide +kernel]
  rw [i_count_Promoted.l0, if_pos (by omega), if_neg (by omega), if_neg (by omega), if_pos rfl, qbMany h 5 s (by omega), Option.bind_some, step_pos (fun a => i_count_Promoted.l0 (k + 1) l s a (wrap64 (2 + 1))) (by omega) (by omega) (by omega) (by omega) (by omega) (by omega), show wrap64 (2 + 1) = 3 by decide +kernel]
  rw [i_count_Promoted.l0, if_neg (by omega)]
  unfold men3; congr 1; omega
theorem qProm_l1 {l : List Int} (h : B8 l) (s : Int) {k : Nat} (hk : 70 < k) {acc : Int} (h0 : 0 ≤ acc) (h1 : acc ≤ 200) : i_count_Promoted.l1 k l s acc 0 = some (acc + men3 l s) := by
  obtain ⟨k, rfl⟩ : ∃ i, k = i + 4 := ⟨k - 4, by omega⟩
  have m2 := many_le l 2 s; have m4 := many_le l 4 s; have m5 := many_le l 5 s
  have p2 := pos0_bd (manyZ l 2 s - 2); have p4 := pos0_bd (manyZ l 4 s - 2)
  rw [i_count_Promoted.l1, if_pos (by omega), if_pos rfl, qbMany h 2 s (by omega), Option.bind_some, step_pos (fun a => i_count_Promoted.l1 (k + 3) l s a (wrap64 (0 + 1))) h0 (by omega) (by omega) (by omega) (by omega) (by omega), show wrap64 (0 + 1) = 1 by decide +kernel]
  rw [i_count_Promoted.l1, if_pos (by omega), if_neg (by omega), if_pos rfl, qbMany h 4 s (by omega), Option.bind_some, step_pos (fun a => i_count_Promoted.l1 (k + 2) l s a (wrap64 (1 + 1))) (by omega) (by omega) (by omega) (by omega) (by omega) (by omega), show wrap64 (1 + 1) = 2 by decide +kernel]
  rw [i_count_Promoted.l1, if_pos (by omega), if_neg (by omega), if_neg (by omega), if_pos rfl, qbMany h 5 s (by omega), Option.bind_some, step_pos (fun a => i_count_Promoted.l1 (k + 1) l s a (wrap64 (2 + 1))) (by omega) (by omega) (by omega) (by omega) (by omega) (by omega), show wrap64 (2 + 1) = 3 by decide +kernel]
  rw [i_count_Promoted.l1, if_neg (by omega)]
  unfold men3; congr 1; omega
theorem qProm_l2 {l : List Int} (h : B8 l) (s : Int) {k : Nat} (hk : 70 < k) {acc : Int} (h0 : 0 ≤ acc) (h1 : acc ≤ 200) : i_count_Promoted.l2 k l s acc 0 = some (acc + men3 l s) := by
  obtain ⟨k, rfl⟩ : ∃ i, k = i + 4 := ⟨k - 4, by omega⟩
  have m2 := many_le l 2 s; have m4 := many_le l 4 s; have m5 := many_le l 5 s
  have p2 := pos0_bd (manyZ l 2 s - 2); have p4 := pos0_bd (manyZ l 4 s - 2)
  rw [i_count_Promoted.l2, if_pos (by omega), if_pos rfl, qbMany h 2 s (by omega), Option.bind_some, step_pos (fun a => i_count_Promoted.l2 (k + 3) l s a (wrap64 (0 + 1))) h0 (by omega) (by omega) (by omega) (by omega) (by omega), show wrap64 (0 + 1) = 1 by decide +kernel]
  rw [i_count_Promoted.l2, if_pos (by omega), if_neg (by omega), if_pos rfl, qbMany h 4 s (by omega), Option.bind_some, step_pos (fun a => i_count_Promoted.l2 (k + 2) l s a (wrap64 (1 + 1))) (by omega) (by omega) (by omega) (by omega) (by omega) (by omega), show wrap64 (1 + 1) = 2 by decide +kernel]
  rw [i_count_Promoted.l2, if_pos (by omega), if_neg (by omega), if_neg (by omega), if_pos rfl, qbMany h 5 s (by omega), Option.bind_some, step_pos (fun a => i_count_Promoted.l2 (k + 1) l s a (wrap64 (2 + 1))) (by omega) (by omega) (by omega) (by omega) (by omega) (by omega), show wrap64 (2 + 1) = 3 by decide +kernel]
  rw [i_count_Promoted.l2, if_neg (by omega)]
  unfold men3; congr 1; omega
theorem qProm_l3 {l : List Int} (h : B8 l) (s : Int) {k : Nat} (hk : 70 < k) {acc : Int} (h0 : 0 ≤ acc) (h1 : acc ≤ 200) : i_count_Promoted.l3 k l s acc 0 = some (acc + men3 l s) := by
  obtain ⟨k, rfl⟩ : ∃ i, k = i + 4 := ⟨k - 4, by omega⟩
  have m2 := many_le l 2 s; have m4 := many_le l 4 s; have m5 := many_le l 5 s
  have p2 := pos0_bd (manyZ l 2 s - 2); have p4 := pos0_bd (manyZ l 4 s - 2)
  rw [i_count_Promoted.l3, if_pos (by omega), if_pos rfl, qbMany h 2 s (by omega), Option.bind_some, step_pos (fun a => i_count_Promoted.l3 (k + 3) l s a (wrap64 (0 + 1))) h0 (by omega) (by omega) (by omega) (by omega) (by omega), show wrap64 (0 + 1) = 1 by decide +kernel]
  rw [i_count_Promoted.l3, if_pos (by omega), if_neg (by omega), if_pos rfl, qbMany h 4 s (by omega), Option.bind_some, step_pos (fun a => i_count_Promoted.l3 (k + 2) l s a (wrap64 (1 + 1))) (by omega) (by omega) (by omega) (by omega) (by omega) (by omega), show wrap64 (1 + 1) = 2 by decide +kernel]
  rw [i_count_Promoted.l3, if_pos (by omega), if_neg (by omega), if_neg (by omega), if_pos rfl, qbMany h 5 s (by omega), Option.bind_some, step_pos (fun a => i_count_Promoted.l3 (k + 1) l s a (wrap64 (2 + 1))) (by omega) (by omega) (by omega) (by omega) (by omega) (by omega), show wrap64 (2 + 1) = 3 by decide +kernel]
  rw [i_count_Promoted.l3, if_neg (by omega)]
  unfold men3; congr 1; omega
theorem qProm {l : List Int} (h : B8 l) (s : Int) {k : Nat} (hk : 70 < k) : i_count_Promoted.f k l s = some (if okB l = true ∧ (s = 0 ∨ s = 1) then promZ l s else 0) := by
  rw [i_count_Promoted.f, qKnown h s (by omega), Option.bind_some]
  by_cases hc : okB l = true ∧ (s = 0 ∨ s = 1)
  · rw [if_pos hc, if_pos (by rw [hc.1, decide_eq_true hc.2]; rfl), qBish h hc.2 true (by omega), qBish h hc.2 false (by omega), Option.bind_some, Option.bind_some]
    have b1 := bcnt_le l s true; have b2 := bcnt_le l s false
    rw [q64 (x := (bcnt l s true : Int) - 1) (by omega) (by omega), q64 (x := (bcnt l s false : Int) - 1) (by omega) (by omega)]
    unfold promZ pos0
    by_cases h1 : (bcnt l s true : Int) - 1 < 0
    · rw [if_pos h1, if_pos h1]
      by_cases h2 : (bcnt l s false : Int) - 1 < 0
      · rw [if_pos h2, if_pos h2, qProm_l0 h s (by omega) (by omega) (by omega)]; congr 1
      · rw [if_neg h2, if_neg h2, q64 (by omega) (by omega), qProm_l1 h s (by omega) (by omega) (by omega)]
    · rw [if_neg h1, if_neg h1, Option.bind_some, q64 (x := (bcnt l s false : Int) - 1) (by omega) (by omega)]
      by_cases h2 : (bcnt l s false : Int) - 1 < 0
      · rw [if_pos h2, if_pos h2, q64 (by omega) (by omega), qProm_l2 h s (by omega) (by omega) (by omega)]
      · rw [if_neg h2, if_neg h2, q64 (by omega) (by omega), qProm_l3 h s (by omega) (by omega) (by omega)]
  · rw [if_neg hc, if_neg (by intro hh; exact hc (by simpa using hh))]
theorem prom_bd (l : List Int) (s : Int) : 0 ≤ promZ l s ∧ promZ l s ≤ 400 := by
  have m2 := many_le l 2 s; have m4 := many_le l 4 s; have m5 := many_le l 5 s
  have b1 := bcnt_le l s true; have b2 := bcnt_le l s false
  have p1 := pos0_bd (bcnt l s true - 1); have p2 := pos0_bd (bcnt l s false - 1); have p3 := pos0_bd (manyZ l 2 s - 2); have p4 := pos0_bd (manyZ l 4 s - 2); have p5 := pos0_bd (manyZ l 5 s - 1)
  unfold promZ men3; omega
end Go.Proofs.Ytpjocgebnodnoaa
