import Derived.Test.YtpjocgebnodnoaaCuz
namespace Go.Proofs.Ytpjocgebnodnoaa
open Go.RowKit
set_option linter.unusedVariables false
set_option linter.unusedSimpArgs false
theorem nt_set_eq {l : List Int} {i : Nat} {v : Int} (h : i < l.length) : nt (l.set i v) i 0 = v := by unfold nt; simp [List.getD, h]
theorem nt_set_ne {l : List Int} {i j : Nat} {v : Int} (h : i ≠ j) : nt (l.set i v) j 0 = nt l j 0 := by unfold nt; simp [List.getD, List.getElem?_set_ne h]
def pcT (s : Nat) : Bool := decide (i_bits_OnesCount.f (IntKind.u64.wrap (s : Int)) = some (pcN s : Int))
theorem pcT_all : ((List.range 256).all pcT) = true := by decide +kernel
theorem pc_is {s : Nat} (h : s < 256) : i_bits_OnesCount.f (IntKind.u64.wrap (s : Int)) = some (pcN s : Int) :=
  of_decide_eq_true (List.all_eq_true.1 pcT_all s (List.mem_range.2 h))
def bitT (s f : Nat) : Bool := (decide (Go.bits .and .i64 ((s : Int) / 2 ^ f) 1 = 0) == !s.testBit f) && (!s.testBit f || decide (Go.bits .andNot .i64 (s : Int) (wrap64 (1 * 2 ^ f)) = ((s - 2 ^ f : Nat) : Int)))
theorem bitT_all : ((List.range 256).all fun s => (List.range 8).all fun f => bitT s f) = true := by decide +kernel
theorem bit_is {s f : Nat} (hs : s < 256) (hf : f < 8) : (Go.bits .and .i64 ((s : Int) / 2 ^ f) 1 = 0 ↔ s.testBit f = false) ∧ (s.testBit f = true → Go.bits .andNot .i64 (s : Int) (wrap64 (1 * 2 ^ f)) = ((s - 2 ^ f : Nat) : Int)) := by
  have := List.all_eq_true.1 (List.all_eq_true.1 bitT_all s (List.mem_range.2 hs)) f (List.mem_range.2 hf)
  unfold bitT at this
  rw [Bool.and_eq_true] at this
  constructor
  · have h1 := this.1
    cases e : s.testBit f <;> simpa [e] using h1
  · intro h; have h2 := this.2; rw [h, Bool.not_true, Bool.false_or] at h2; exact of_decide_eq_true h2
theorem qGone {s side : Int} (h0 : 0 ≤ s) (h1 : s < 64) : i_count_gone.f s side = some (goneZ side s) := by
  rw [i_count_gone.f, qRank h0 h1, Option.bind_some, Option.bind_some, q64 (by omega) (by omega), q64 (by omega) (by omega)]; unfold goneZ
  split <;> rfl
theorem goneZ_bd {s : Int} (side : Int) (h0 : 0 ≤ s) (h1 : s < 64) : -1 ≤ goneZ side s ∧ goneZ side s ≤ 6 := by unfold goneZ; split <;> omega
def farN : Int := 1048576
def awayZ (s side : Int) (f : Nat) : Int := if goneZ side s < co1 (s, f) then farN else co1 (s, f)
theorem qAway {s side : Int} (h0 : 0 ≤ s) (h1 : s < 64) {f : Nat} (hf : f < 8) : i_count_away.f s side f = some (awayZ s side f) := by
  have hg := goneZ_bd side h0 h1
  rw [i_count_away.f, qFile h0 h1, Option.bind_some, Option.bind_some, qGone h0 h1, Option.bind_some, Option.bind_some, q64 (x := s % 8 - (f : Int)) (by omega) (by omega), q64 (x := (f : Int) - s % 8) (by omega) (by omega)]
  unfold awayZ co1 distZ farN
  simp only
  repeat' split
  all_goals first | rfl | (exfalso; omega)
def Sol (side : Int) (t : List Int) (s : Nat) (ps : List (Int × Nat)) : Prop := Fit side ps ∧ ps.map (·.1) = t.take (pcN s) ∧ mask ps = s
def Val (side : Int) (t : List Int) (s : Nat) (v : Int) : Prop := v ≤ farN ∧ 0 ≤ v ∧ (v < farN → ∃ ps, Sol side t s ps ∧ cost ps = v) ∧ ∀ ps, Sol side t s ps → v ≤ cost ps
def ValF (side : Int) (t : List Int) (s f : Nat) (v : Int) : Prop := v ≤ farN ∧ 0 ≤ v ∧ (v < farN → ∃ ps, Sol side t s ps ∧ cost ps = v) ∧ ∀ ps p, p.2 < f → Sol side t s (ps ++ [p]) → v ≤ cost (ps ++ [p])
theorem sol_len {side : Int} {t : List Int} {s : Nat} {ps : List (Int × Nat)} (h : Sol side t s ps) : ps.length = pcN s := by
  have := mask_is h.1; rw [h.2.2] at this; exact this.2.1.symm
theorem snoc_of {α : Type} {l : List α} (h : l ≠ []) : ∃ l' x, l = l' ++ [x] := ⟨l.dropLast, l.getLast h, (List.dropLast_concat_getLast h).symm⟩
theorem Val.far {side : Int} {t : List Int} {s : Nat} (hn : ∀ ps, ¬ Sol side t s ps) : Val side t s farN :=
  ⟨by unfold farN; omega, by unfold farN; omega, fun h => by unfold farN at h; omega, fun ps h => absurd h (hn ps)⟩
theorem Val.zero (side : Int) (t : List Int) : Val side t 0 0 :=
  ⟨by unfold farN; omega, by omega, fun _ => ⟨[], ⟨Fit.nil _, by simp [pcN], rfl⟩, rfl⟩, fun ps _ => cost_nn ps⟩
theorem ValF.start {side : Int} {t : List Int} {s : Nat} : ValF side t s 0 farN :=
  ⟨by unfold farN; omega, by unfold farN; omega, fun h => by unfold farN at h; omega, fun ps p h => absurd h (by omega)⟩
theorem take_snoc {t : List Int} {n : Nat} (h : n < t.length) : t.take (n + 1) = t.take n ++ [nt t n 0] := by
  rw [List.take_add_one]; congr 1; unfold nt; simp [List.getD, List.getElem?_eq_getElem h]
theorem sol_last {side : Int} {t : List Int} {s : Nat} {ps : List (Int × Nat)} {p : Int × Nat} (h : Sol side t s (ps ++ [p])) (hl : pcN s ≤ t.length) :
    okP side p ∧ p.1 = nt t (pcN s - 1) 0 ∧ s.testBit p.2 = true ∧ Sol side t (s - 2 ^ p.2) ps ∧ pcN (s - 2 ^ p.2) + 1 = pcN s := by
  obtain ⟨h1, h2, h3⟩ := Fit.snoc.1 h.1
  have hm := mask_is h.1
  have hs : s < 256 := by rw [← h.2.2]; exact hm.1
  have hpc : pcN s = ps.length + 1 := by rw [← sol_len h]; simp
  have e := h.2.1
  rw [hpc, take_snoc (by omega), List.map_append, List.map_cons, List.map_nil] at e
  obtain ⟨e1, e2⟩ := List.append_inj' e rfl
  have hms : mask ps + 2 ^ p.2 = s := by rw [← mask_app, h.2.2]
  have hm2 := mask_is h3
  have hb : (mask ps).testBit p.2 = false := by
    cases e : (mask ps).testBit p.2 with
    | false => rfl
    | true => exact absurd ((hm2.2.2 _ h1.1).1 e) h2
  obtain ⟨u1, u2, u3⟩ := set_up hm2.1 h1.1 hb
  rw [hms] at u2 u3
  have es : s - 2 ^ p.2 = mask ps := by omega
  rw [es]
  refine ⟨h1, ?_, ?_, ⟨h3, ?_, rfl⟩, u2.symm⟩
  · rw [hpc, Nat.add_sub_cancel]; simpa using e2
  · rw [u3 _ h1.1]; simp
  · rw [hm2.2.1]; exact e1
theorem sol_more {side : Int} {t : List Int} {s f : Nat} {ps : List (Int × Nat)} (hs : s < 256) (hf : f < 8) (hb : s.testBit f = true) (hl : pcN s ≤ t.length) (h : Sol side t (s - 2 ^ f) ps)
    (hok : okP side (nt t (pcN s - 1) 0, f)) : Sol side t s (ps ++ [(nt t (pcN s - 1) 0, f)]) := by
  obtain ⟨d1, d2⟩ := set_down hs hf hb
  obtain ⟨u1, u2, u3⟩ := set_up (Nat.lt_of_le_of_lt (Nat.sub_le s (2 ^ f)) hs) hf d2
  rw [Nat.sub_add_cancel d1] at u2 u3
  have hm := mask_is h.1
  rw [h.2.2] at hm
  refine ⟨Fit.snoc.2 ⟨hok, fun hh => ?_, h.1⟩, ?_, ?_⟩
  · have := (hm.2.2 f hf).2 hh; rw [d2] at this; cases this
  · rw [List.map_append, h.2.1, u2, Nat.add_sub_cancel, take_snoc (by omega)]; rfl
  · rw [mask_app, h.2.2]; exact Nat.sub_add_cancel d1
theorem ValF.skip {side : Int} {t : List Int} {s f : Nat} {v : Int} (h : ValF side t s f v) (hl : pcN s ≤ t.length) (hb : s.testBit f = false) : ValF side t s (f + 1) v :=
  ⟨h.1, h.2.1, h.2.2.1, fun ps p hp hsol => by
    by_cases e : p.2 < f
    · exact h.2.2.2 ps p e hsol
    · have := (sol_last hsol hl).2.2.1
      rw [show p.2 = f by omega, hb] at this; cases this⟩
theorem ValF.step {side : Int} {t : List Int} {s f : Nat} {v u : Int} (h : ValF side t s f v) (hs : s < 256) (hf : f < 8) (hl : pcN s ≤ t.length) (hb : s.testBit f = true) (hu : Val side t (s - 2 ^ f) u)
    (hg : goneZ side (nt t (pcN s - 1) 0) ≤ 5) : ValF side t s (f + 1) (if u + awayZ (nt t (pcN s - 1) 0) side f < v then u + awayZ (nt t (pcN s - 1) 0) side f else v) := by
  have c0 := co1_nn (nt t (pcN s - 1) 0, f)
  have ha0 : 0 ≤ awayZ (nt t (pcN s - 1) 0) side f := by unfold awayZ farN; split <;> omega
  refine ⟨?_, ?_, ?_, ?_⟩
  · split; have := h.1; omega; exact h.1
  · split; have := hu.2.1; omega; exact h.2.1
  · by_cases hc : u + awayZ (nt t (pcN s - 1) 0) side f < v
    · rw [if_pos hc]; intro hlt
      have h0 := hu.2.1
      have haf : awayZ (nt t (pcN s - 1) 0) side f < farN := by omega
      unfold awayZ at haf hc hlt ⊢
      by_cases hg2 : goneZ side (nt t (pcN s - 1) 0) < co1 (nt t (pcN s - 1) 0, f)
      · rw [if_pos hg2] at haf; omega
      · rw [if_neg hg2] at haf hc hlt ⊢
        obtain ⟨ps, hp, hcst⟩ := hu.2.2.1 (by omega)
        exact ⟨_, sol_more hs hf hb hl hp ⟨hf, Int.not_lt.1 hg2, hg⟩, by rw [cost_app, hcst]; simp [cost]⟩
    · rw [if_neg hc]; exact h.2.2.1
  · intro ps p hp hsol
    have hle : (if u + awayZ (nt t (pcN s - 1) 0) side f < v then u + awayZ (nt t (pcN s - 1) 0) side f else v) ≤ v ∧ (if u + awayZ (nt t (pcN s - 1) 0) side f < v then u + awayZ (nt t (pcN s - 1) 0) side f else v) ≤ u + awayZ (nt t (pcN s - 1) 0) side f := by
      split <;> omega
    by_cases e : p.2 < f
    · have := h.2.2.2 ps p e hsol; omega
    · obtain ⟨k1, k2, k3, k4, _⟩ := sol_last hsol hl
      have ef : p.2 = f := by omega
      have ep : p = (nt t (pcN s - 1) 0, f) := Prod.ext k2 ef
      rw [ef] at k4
      have hm := hu.2.2.2 ps k4
      have haw : awayZ (nt t (pcN s - 1) 0) side f = co1 p := by
        unfold awayZ; rw [← ep]; rw [← k2, if_neg (by have := k1.2.1; omega)]
      rw [cost_app]; simp only [cost]; omega
theorem ValF.done {side : Int} {t : List Int} {s : Nat} {v : Int} (h : ValF side t s 8 v) (h0 : pcN s ≠ 0) (hl : pcN s ≤ t.length) : Val side t s v :=
  ⟨h.1, h.2.1, h.2.2.1, fun ps hsol => by
    have hne : ps ≠ [] := fun e => by have := sol_len hsol; rw [e] at this; exact h0 this.symm
    obtain ⟨qs, p, rfl⟩ := snoc_of hne
    exact h.2.2.2 qs p (sol_last hsol hl).1.1 hsol⟩
end Go.Proofs.Ytpjocgebnodnoaa
