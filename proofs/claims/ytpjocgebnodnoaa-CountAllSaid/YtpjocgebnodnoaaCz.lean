/- Plain words on the reference's matchings: every one is tried, the least is told. -/
import Derived.Test.YtpjocgebnodnoaaCy
namespace Go.Proofs.Ytpjocgebnodnoaa
open Go.RowKit
set_option linter.unusedVariables false
set_option linter.unusedSimpArgs false
def Free (free : List Bool) (ps : List (Int × Nat)) : Prop := ∀ p ∈ ps, nt free p.2 false = true
/-- a matching of the pawns from the i-th on, with files that are free. -/
def MSol (side : Int) (t : List Int) (i : Nat) (free : List Bool) (ps : List (Int × Nat)) : Prop := Fit side ps ∧ ps.map (·.1) = t.drop i ∧ Free free ps
def Ms (side : Int) (t : List Int) (i : Nat) (free : List Bool) (v : Int) : Prop :=
  (v = -1 ∧ ∀ ps, ¬ MSol side t i free ps) ∨ ((∃ ps, MSol side t i free ps ∧ cost ps = v) ∧ ∀ ps, MSol side t i free ps → v ≤ cost ps)
/-- the same, of those whose first file is below f. -/
def MsF (side : Int) (t : List Int) (i : Nat) (free : List Bool) (f : Nat) (v : Int) : Prop :=
  (v = -1 ∧ ∀ p ps, p.2 < f → ¬ MSol side t i free (p :: ps)) ∨ ((∃ ps, MSol side t i free ps ∧ cost ps = v) ∧ ∀ p ps, p.2 < f → MSol side t i free (p :: ps) → v ≤ cost (p :: ps))
theorem msol_bd {side : Int} {t : List Int} {i : Nat} {free : List Bool} {ps : List (Int × Nat)} (h : MSol side t i free ps) : 0 ≤ cost ps ∧ cost ps ≤ 40 := by
  have := cost_le h.1; have := fit_len h.1; have := cost_nn ps; omega
theorem Ms.bd {side : Int} {t : List Int} {i : Nat} {free : List Bool} {v : Int} (h : Ms side t i free v) : -1 ≤ v ∧ v ≤ 1000 := by
  rcases h with ⟨h, _⟩ | ⟨⟨ps, h1, h2⟩, _⟩
  · omega
  · have := msol_bd h1; omega
theorem MsF.bd {side : Int} {t : List Int} {i : Nat} {free : List Bool} {f : Nat} {v : Int} (h : MsF side t i free f v) : -1 ≤ v ∧ v ≤ 1000 := by
  rcases h with ⟨h, _⟩ | ⟨⟨ps, h1, h2⟩, _⟩
  · omega
  · have := msol_bd h1; omega
theorem drop_cons {t : List Int} {i : Nat} (h : i < t.length) : t.drop i = nt t i 0 :: t.drop (i + 1) := by
  rw [List.drop_eq_getElem_cons h]; congr 1; unfold nt; simp [List.getD, List.getElem?_eq_getElem h]
theorem msol_cons {side : Int} {t : List Int} {i : Nat} {free : List Bool} {p : Int × Nat} {ps : List (Int × Nat)} (hi : i < t.length) (hfl : free.length = 8) :
    MSol side t i free (p :: ps) ↔ p.1 = nt t i 0 ∧ okP side p ∧ nt free p.2 false = true ∧ MSol side t (i + 1) (free.set p.2 false) ps := by
  unfold MSol
  rw [Fit.cons, List.map_cons, drop_cons hi, List.cons.injEq]
  have ne : ∀ q : Int × Nat, q.2 ≠ p.2 → nt (free.set p.2 false) q.2 false = nt free q.2 false := fun q hq => by unfold nt; simp [List.getD, List.getElem?_set_ne (Ne.symm hq)]
  have eq : p.2 < 8 → nt (free.set p.2 false) p.2 false = false := fun h => by unfold nt; simp [List.getD, hfl, h]
  constructor
  · rintro ⟨⟨h1, h2, h3⟩, ⟨h4, h5⟩, h6⟩
    refine ⟨h4, h1, h6 p (List.mem_cons_self ..), h3, h5, fun q hq => ?_⟩
    rw [ne q (fun e => h2 (by rw [← e]; exact List.mem_map_of_mem (f := (·.2)) hq))]; exact h6 q (List.mem_cons_of_mem _ hq)
  · rintro ⟨h4, h1, h7, h3, h5, h6⟩
    refine ⟨⟨h1, fun hm => ?_, h3⟩, ⟨h4, h5⟩, fun q hq => ?_⟩
    · obtain ⟨q, hq, e⟩ := List.mem_map.1 hm
      have := h6 q hq
      rw [e, eq h1.1] at this; cases this
    · rcases List.mem_cons.1 hq with rfl | hq
      · exact h7
      · have := h6 q hq
        by_cases e : q.2 = p.2
        · rw [e, eq h1.1] at this; cases this
        · rw [ne q e] at this; exact this
theorem MsF.start {side : Int} {t : List Int} {i : Nat} {free : List Bool} : MsF side t i free 0 (-1) := .inl ⟨rfl, fun p ps h => absurd h (by omega)⟩
theorem MsF.done {side : Int} {t : List Int} {i : Nat} {free : List Bool} {v : Int} (h : MsF side t i free 8 v) (hi : i < t.length) : Ms side t i free v := by
  have hc : ∀ ps, MSol side t i free ps → ∃ p qs, ps = p :: qs ∧ p.2 < 8 := by
    intro ps hp
    cases ps with
    | nil => have := hp.2.1; rw [drop_cons hi] at this; cases this
    | cons p qs => exact ⟨p, qs, rfl, (Fit.cons.1 hp.1).1.1⟩
  rcases h with ⟨h, hn⟩ | ⟨h, hm⟩
  · refine .inl ⟨h, fun ps hp => ?_⟩
    obtain ⟨p, qs, rfl, h8⟩ := hc ps hp
    exact hn p qs h8 hp
  · refine .inr ⟨h, fun ps hp => ?_⟩
    obtain ⟨p, qs, rfl, h8⟩ := hc ps hp
    exact hm p qs h8 hp
def nbest (side s : Int) (free : List Bool) (f : Nat) (best n : Int) : Int :=
  if (nt free f false = true ∧ co1 (s, f) ≤ goneZ side s ∧ goneZ side s ≤ 5) ∧ 0 ≤ n ∧ (best < 0 ∨ n + co1 (s, f) < best) then n + co1 (s, f) else best
theorem MsF.step {side : Int} {t : List Int} {i : Nat} {free : List Bool} {f : Nat} {v n : Int} (h : MsF side t i free f v) (hf : f < 8) (hi : i < t.length) (hfl : free.length = 8) (hn : Ms side t (i + 1) (free.set f false) n) :
    MsF side t i free (f + 1) (nbest side (nt t i 0) free f v n) := by
  unfold nbest
  have pick : ∀ (p : Int × Nat) ps, p.2 < f + 1 → ¬ p.2 < f → MSol side t i free (p :: ps) → p = (nt t i 0, f) ∧ (nt free f false = true ∧ co1 (nt t i 0, f) ≤ goneZ side (nt t i 0) ∧ goneZ side (nt t i 0) ≤ 5) ∧ MSol side t (i + 1) (free.set f false) ps := by
    intro p ps h1 h2 hs
    obtain ⟨k1, k2, k3, k4⟩ := (msol_cons hi hfl).1 hs
    have e : p.2 = f := by omega
    have ep : p = (nt t i 0, f) := Prod.ext k1 e
    rw [e] at k3 k4
    exact ⟨ep, ⟨k3, by rw [← ep, ← k1]; exact k2.2.1, by rw [← k1]; exact k2.2.2⟩, k4⟩
  by_cases hc : (nt free f false = true ∧ co1 (nt t i 0, f) ≤ goneZ side (nt t i 0) ∧ goneZ side (nt t i 0) ≤ 5) ∧ 0 ≤ n ∧ (v < 0 ∨ n + co1 (nt t i 0, f) < v)
  · rw [if_pos hc]
    rcases hn with ⟨hn, _⟩ | ⟨⟨qs, hq, hqc⟩, hmin⟩
    · have := hc.2.1; omega
    · refine .inr ⟨⟨(nt t i 0, f) :: qs, (msol_cons hi hfl).2 ⟨rfl, ⟨hf, hc.1.2⟩, hc.1.1, hq⟩, by simp only [cost]; omega⟩, fun p ps hp hs => ?_⟩
      by_cases e : p.2 < f
      · rcases h with ⟨_, hno⟩ | ⟨⟨rs, hr, hrc⟩, hm⟩
        · exact absurd hs (hno p ps e)
        · have := hm p ps e hs; have := msol_bd hr; have := hc.2.2; omega
      · obtain ⟨ep, _, k4⟩ := pick p ps hp e hs
        have := hmin ps k4
        rw [ep]; simp only [cost]; omega
  · rw [if_neg hc]
    have other : ∀ (p : Int × Nat) ps, p.2 < f + 1 → ¬ p.2 < f → MSol side t i free (p :: ps) → 0 ≤ v ∧ v ≤ cost (p :: ps) := by
      intro p ps hp e hs
      obtain ⟨ep, k2, k4⟩ := pick p ps hp e hs
      rcases hn with ⟨_, hno⟩ | ⟨⟨qs, hq, hqc⟩, hmin⟩
      · exact absurd k4 (hno ps)
      · have h1 := hmin ps k4; have h2 := msol_bd hq
        have : ¬ (v < 0 ∨ n + co1 (nt t i 0, f) < v) := fun hh => hc ⟨k2, by omega, hh⟩
        rw [ep]; simp only [cost]; omega
    rcases h with ⟨hv, hno⟩ | ⟨hex, hm⟩
    · refine .inl ⟨hv, fun p ps hp hs => ?_⟩
      by_cases e : p.2 < f
      · exact hno p ps e hs
      · have := other p ps hp e hs; omega
    · refine .inr ⟨hex, fun p ps hp hs => ?_⟩
      by_cases e : p.2 < f
      · exact hm p ps e hs
      · exact (other p ps hp e hs).2
theorem hd_facts {s n : Int} {f : Nat} (hx : 0 ≤ s ∧ s < 64) (hf : f < 8) (hn0 : -1 ≤ n) (hn1 : n ≤ 1000) : wrap64 (s % 8 - (f : Int)) = s % 8 - (f : Int) ∧ wrap64 (-(s % 8 - (f : Int))) = -(s % 8 - (f : Int)) ∧ wrap64 (n + -(s % 8 - (f : Int))) = n + -(s % 8 - (f : Int)) ∧ wrap64 (n + (s % 8 - (f : Int))) = n + (s % 8 - (f : Int)) ∧
    wrap64 (s / 8 - 1) = s / 8 - 1 ∧ wrap64 (6 - s / 8) = 6 - s / 8 :=
  ⟨q64 (by omega) (by omega), q64 (by omega) (by omega), q64 (by omega) (by omega), q64 (by omega) (by omega), q64 (by omega) (by omega), q64 (by omega) (by omega)⟩
theorem hd_f {f : Nat} (hf : f < 8) : wrap64 ((f : Int) + 1) = ((f + 1 : Nat) : Int) ∧ 0 ≤ (f : Int) ∧ (f : Int) < 8 := ⟨by rw [q64 (by omega) (by omega)]; rfl, by omega, by omega⟩
theorem hd_i {i : Nat} (hf : i < 64) : wrap64 ((i : Int) + 1) = ((i + 1 : Nat) : Int) := by rw [q64 (by omega) (by omega)]; rfl
theorem co1_neg {s : Int} {f : Nat} (h : s % 8 - (f : Int) < 0) : co1 (s, f) = -(s % 8 - (f : Int)) := by unfold co1 distZ; simp only; rw [if_pos (by omega)]; omega
theorem co1_pos {s : Int} {f : Nat} (h : ¬ s % 8 - (f : Int) < 0) : co1 (s, f) = s % 8 - (f : Int) := by unfold co1 distZ; simp only; rw [if_neg (by omega)]
theorem arm_is {α : Type} {side s best n d : Int} {f : Nat} {free : List Bool} (B : Int → α) (hd : co1 (s, f) = d) :
    (if nt free f false = true then (if d > goneZ side s then B best else if goneZ side s > 5 then B best else if n ≥ 0 then (if best < 0 then B (n + d) else if n + d < best then B (n + d) else B best) else B best) else B best) = B (nbest side s free f best n) := by
  unfold nbest
  rw [hd]
  generalize goneZ side s = g
  clear hd
  cases nt free f false with
  | false => rw [if_neg (by simp), if_neg (fun h => absurd h.1.1 (by simp))]
  | true =>
    rw [if_pos rfl]
    simp only [true_and]
    repeat' split
    all_goals first | rfl | (exfalso; omega)
theorem mt_head_l0 {t : List Int} {side : Int} (hsd : side = 1) {free : List Bool} (hfl : free.length = 8) {i f : Nat} (hf : f < 8) (hi : i < t.length) (hl : t.length ≤ 64) {s : Int} (hs : nt t i 0 = s) (hx : 0 ≤ s ∧ s < 64) {best n : Int} (hn0 : -1 ≤ n) (hn1 : n ≤ 1000) {k : Nat} (hk : 8 < k)
    (hm : i_alfilref24_match.f k t side ((i + 1 : Nat) : Int) (free.set f false) = some n) :
    i_alfilref24_match.l0 (k + 1) t side i free (s / 8) best f = i_alfilref24_match.l0 k t side i free (s / 8) (nbest side s free f best n) ((f + 1 : Nat) : Int) := by
  obtain ⟨e0, e1, e2, e3, eg1, eg2⟩ := hd_facts (f := f) hx hf hn0 hn1
  obtain ⟨es1, c0, c5⟩ := hd_f hf
  have ei1 : wrap64 ((i : Int) + 1) = ((i + 1 : Nat) : Int) := hd_i (Nat.lt_of_lt_of_le hi hl)
  have c1 : (i : Int) < (t.length : Int) := Int.ofNat_lt.mpr hi
  have c6 : 0 ≤ (i : Int) := Int.natCast_nonneg i
  have c2 : (f : Int) < (free.length : Int) := by rw [hfl]; exact c5
  have c3 : 0 < free.length := by rw [hfl]; decide
  have c4 : free.length < 140737488355328 := by rw [hfl]; decide
  have eg : wrap64 (6 - s / 8) = goneZ side s := by rw [eg2, hsd]; rfl
  rw [i_alfilref24_match.l0, if_pos c5, if_pos c6, if_pos c1, Int.toNat_natCast, hs, rFile hx.1 hx.2 hk, Option.bind_some, e0, e1, eg, Int.toNat_natCast, ei1, es1, hm, Option.bind_some, Option.bind_some, e2, e3]
  by_cases hneg : s % 8 - (f : Int) < 0
  · rw [if_pos hneg, if_pos c0, if_pos c2, if_pos c3, if_pos c4]
    exact arm_is (fun b => i_alfilref24_match.l0 k t side i free (s / 8) b ((f + 1 : Nat) : Int)) (co1_neg hneg)
  · rw [if_neg hneg, if_pos c0, if_pos c2, if_pos c3, if_pos c4]
    exact arm_is (fun b => i_alfilref24_match.l0 k t side i free (s / 8) b ((f + 1 : Nat) : Int)) (co1_pos hneg)
theorem mt_loop_l0 {t : List Int} {side : Int} (hsd : side = 1) (ht : ∀ x ∈ t, 0 ≤ x ∧ x < 64) (hl : t.length ≤ 64) {free : List Bool} (hfl : free.length = 8) {i : Nat} (hi : i < t.length) (K : Nat)
    (ih : ∀ k free', K < k → free'.length = 8 → ∃ v, Ms side t (i + 1) free' v ∧ i_alfilref24_match.f k t side ((i + 1 : Nat) : Int) free' = some v) : ∀ (d f k : Nat) (best : Int), f + d = 8 → K + 9 + d < k → MsF side t i free f best →
    ∃ v, Ms side t i free v ∧ i_alfilref24_match.l0 k t side i free (nt t i 0 / 8) best f = some v := by
  have hmem : nt t i 0 ∈ t := by unfold nt; rw [List.getD_eq_getElem?_getD, List.getElem?_eq_getElem hi]; exact List.getElem_mem _
  have hx := ht _ hmem
  intro d
  induction d with
  | zero =>
    intro f k best hf hk hb
    obtain ⟨k, rfl⟩ : ∃ j, k = j + 1 := ⟨k - 1, by omega⟩
    exact ⟨best, ((show f = 8 by omega) ▸ hb).done hi, by rw [i_alfilref24_match.l0, if_neg (by omega)]⟩
  | succ d ihd =>
    intro f k best hf hk hb
    obtain ⟨k, rfl⟩ : ∃ j, k = j + 1 := ⟨k - 1, by omega⟩
    obtain ⟨n, hn, hm⟩ := ih k (free.set f false) (by omega) (by rw [List.length_set]; exact hfl)
    obtain ⟨v, h1, h2⟩ := ihd (f + 1) k (nbest side (nt t i 0) free f best n) (by omega) (by omega) (hb.step (by omega) hi hfl hn)
    exact ⟨v, h1, by rw [mt_head_l0 hsd hfl (show f < 8 by omega) hi hl rfl hx hn.bd.1 hn.bd.2 (by omega) hm]; exact h2⟩
theorem mt_head_l1 {t : List Int} {side : Int} (hsd : side = 0) {free : List Bool} (hfl : free.length = 8) {i f : Nat} (hf : f < 8) (hi : i < t.length) (hl : t.length ≤ 64) {s : Int} (hs : nt t i 0 = s) (hx : 0 ≤ s ∧ s < 64) {best n : Int} (hn0 : -1 ≤ n) (hn1 : n ≤ 1000) {k : Nat} (hk : 8 < k)
    (hm : i_alfilref24_match.f k t side ((i + 1 : Nat) : Int) (free.set f false) = some n) :
    i_alfilref24_match.l1 (k + 1) t side i free (s / 8) best f = i_alfilref24_match.l1 k t side i free (s / 8) (nbest side s free f best n) ((f + 1 : Nat) : Int) := by
  obtain ⟨e0, e1, e2, e3, eg1, eg2⟩ := hd_facts (f := f) hx hf hn0 hn1
  obtain ⟨es1, c0, c5⟩ := hd_f hf
  have ei1 : wrap64 ((i : Int) + 1) = ((i + 1 : Nat) : Int) := hd_i (Nat.lt_of_lt_of_le hi hl)
  have c1 : (i : Int) < (t.length : Int) := Int.ofNat_lt.mpr hi
  have c6 : 0 ≤ (i : Int) := Int.natCast_nonneg i
  have c2 : (f : Int) < (free.length : Int) := by rw [hfl]; exact c5
  have c3 : 0 < free.length := by rw [hfl]; decide
  have c4 : free.length < 140737488355328 := by rw [hfl]; decide
  have eg : wrap64 (s / 8 - 1) = goneZ side s := by rw [eg1, hsd]; rfl
  rw [i_alfilref24_match.l1, if_pos c5, if_pos c6, if_pos c1, Int.toNat_natCast, hs, rFile hx.1 hx.2 hk, Option.bind_some, e0, e1, eg, Int.toNat_natCast, ei1, es1, hm, Option.bind_some, Option.bind_some, e2, e3]
  by_cases hneg : s % 8 - (f : Int) < 0
  · rw [if_pos hneg, if_pos c0, if_pos c2, if_pos c3, if_pos c4]
    exact arm_is (fun b => i_alfilref24_match.l1 k t side i free (s / 8) b ((f + 1 : Nat) : Int)) (co1_neg hneg)
  · rw [if_neg hneg, if_pos c0, if_pos c2, if_pos c3, if_pos c4]
    exact arm_is (fun b => i_alfilref24_match.l1 k t side i free (s / 8) b ((f + 1 : Nat) : Int)) (co1_pos hneg)
theorem mt_loop_l1 {t : List Int} {side : Int} (hsd : side = 0) (ht : ∀ x ∈ t, 0 ≤ x ∧ x < 64) (hl : t.length ≤ 64) {free : List Bool} (hfl : free.length = 8) {i : Nat} (hi : i < t.length) (K : Nat)
    (ih : ∀ k free', K < k → free'.length = 8 → ∃ v, Ms side t (i + 1) free' v ∧ i_alfilref24_match.f k t side ((i + 1 : Nat) : Int) free' = some v) : ∀ (d f k : Nat) (best : Int), f + d = 8 → K + 9 + d < k → MsF side t i free f best →
    ∃ v, Ms side t i free v ∧ i_alfilref24_match.l1 k t side i free (nt t i 0 / 8) best f = some v := by
  have hmem : nt t i 0 ∈ t := by unfold nt; rw [List.getD_eq_getElem?_getD, List.getElem?_eq_getElem hi]; exact List.getElem_mem _
  have hx := ht _ hmem
  intro d
  induction d with
  | zero =>
    intro f k best hf hk hb
    obtain ⟨k, rfl⟩ : ∃ j, k = j + 1 := ⟨k - 1, by omega⟩
    exact ⟨best, ((show f = 8 by omega) ▸ hb).done hi, by rw [i_alfilref24_match.l1, if_neg (by omega)]⟩
  | succ d ihd =>
    intro f k best hf hk hb
    obtain ⟨k, rfl⟩ : ∃ j, k = j + 1 := ⟨k - 1, by omega⟩
    obtain ⟨n, hn, hm⟩ := ih k (free.set f false) (by omega) (by rw [List.length_set]; exact hfl)
    obtain ⟨v, h1, h2⟩ := ihd (f + 1) k (nbest side (nt t i 0) free f best n) (by omega) (by omega) (hb.step (by omega) hi hfl hn)
    exact ⟨v, h1, by rw [mt_head_l1 hsd hfl (show f < 8 by omega) hi hl rfl hx hn.bd.1 hn.bd.2 (by omega) hm]; exact h2⟩
theorem mt_is {t : List Int} {side : Int} (hsd : side = 0 ∨ side = 1) (ht : ∀ x ∈ t, 0 ≤ x ∧ x < 64) (hl : t.length ≤ 64) : ∀ (d i k : Nat) (free : List Bool), i + d = t.length → 20 * d + 20 < k → free.length = 8 →
    ∃ v, Ms side t i free v ∧ i_alfilref24_match.f k t side i free = some v := by
  intro d
  induction d with
  | zero =>
    intro i k free hi hk hfl
    obtain ⟨k, rfl⟩ : ∃ j, k = j + 1 := ⟨k - 1, by omega⟩
    refine ⟨0, .inr ⟨⟨[], ⟨Fit.nil _, by rw [List.drop_eq_nil_of_le (by omega)]; rfl, fun p hp => by cases hp⟩, rfl⟩, fun ps _ => cost_nn ps⟩, ?_⟩
    rw [i_alfilref24_match.f, if_pos (by omega)]
  | succ d ih =>
    intro i k free hi hk hfl
    obtain ⟨k, rfl⟩ : ∃ j, k = j + 1 := ⟨k - 1, by omega⟩
    have hlt : i < t.length := by omega
    have hmem : nt t i 0 ∈ t := by unfold nt; rw [List.getD_eq_getElem?_getD, List.getElem?_eq_getElem hlt]; exact List.getElem_mem _
    have hx := ht _ hmem
    have c1 : (i : Int) < (t.length : Int) := by omega
    have ih2 : ∀ k free', 20 * d + 20 < k → free'.length = 8 → ∃ v, Ms side t (i + 1) free' v ∧ i_alfilref24_match.f k t side ((i + 1 : Nat) : Int) free' = some v := fun k free' h1 h2 => ih (i + 1) k free' (by omega) h1 h2
    have head : i_alfilref24_match.f (k + 1) t side i free = if side = 1 then i_alfilref24_match.l0 k t side i free (nt t i 0 / 8) (-1) 0 else i_alfilref24_match.l1 k t side i free (nt t i 0 / 8) (-1) 0 := by
      rw [i_alfilref24_match.f, if_neg (by omega), if_pos (by omega), if_pos c1, Int.toNat_natCast, rRank hx.1 hx.2 (by omega), Option.bind_some, Option.bind_some]
    rcases hsd with h0 | h1
    · obtain ⟨v, a, b⟩ := mt_loop_l1 h0 ht hl hfl hlt (20 * d + 20) ih2 8 0 k (-1) rfl (by omega) MsF.start
      exact ⟨v, a, by rw [head, if_neg (by omega)]; exact b⟩
    · obtain ⟨v, a, b⟩ := mt_loop_l0 h1 ht hl hfl hlt (20 * d + 20) ih2 8 0 k (-1) rfl (by omega) MsF.start
      exact ⟨v, a, by rw [head, if_pos h1]; exact b⟩
def allF : List Bool := [true, true, true, true, true, true, true, true]
theorem ms_best {side : Int} {t : List Int} {v : Int} (h : Ms side t 0 allF v) : Best side t v := by
  have full : ∀ ps, Fit side ps → ps.map (·.1) = t → MSol side t 0 allF ps := fun ps h1 h2 => ⟨h1, by rw [List.drop_zero]; exact h2, fun p hp => by
    have := (h1.2 p hp).1
    rcases (show p.2 = 0 ∨ p.2 = 1 ∨ p.2 = 2 ∨ p.2 = 3 ∨ p.2 = 4 ∨ p.2 = 5 ∨ p.2 = 6 ∨ p.2 = 7 by omega) with e | e | e | e | e | e | e | e <;> rw [e] <;> rfl⟩
  rcases h with ⟨h, hn⟩ | ⟨⟨ps, h1, h2⟩, hm⟩
  · exact .inl ⟨h, fun ps hf e => hn ps (full ps hf e)⟩
  · exact .inr ⟨⟨ps, h1.1, by rw [h1.2.1, List.drop_zero], h2⟩, fun ps hf e => hm ps (full ps hf e)⟩
theorem rLeast {l : List Int} (h : B8 l) {side : Int} (hs : side = 0 ∨ side = 1) {v : Int} (hv : Best side (whereZ l (sg side 1)) v) {k : Nat} (hk : 1000 < k) : i_alfilref24_Least.f k l side = some v := by
  have hl := where_len l (sg side 1)
  rw [i_alfilref24_Least.f, rMan (by omega) (by omega) hs, Option.bind_some, rWhere h _ (by omega), Option.bind_some]
  by_cases h8 : (whereZ l (sg side 1)).length ≤ 8
  · rw [if_neg (by omega)]
    obtain ⟨u, a, b⟩ := mt_is hs (fun x hx => mem_where hx) hl (whereZ l (sg side 1)).length 0 k allF (Nat.zero_add _) (by omega) rfl
    have e := (ms_best a).uni hv
    have b' : i_alfilref24_match.f k (whereZ l (sg side 1)) side 0 [true, true, true, true, true, true, true, true] = some u := b
    rw [b', Option.bind_some, e]
  · rw [if_pos (by omega)]
    rcases hv with ⟨hv, _⟩ | ⟨⟨ps, h1, h2, _⟩, _⟩
    · rw [hv]
    · have := fit_len h1; rw [← List.length_map (f := (·.1)), h2] at this; exact absurd this h8
end Go.Proofs.Ytpjocgebnodnoaa
