import Derived.Test.YtpjocgebnodnoaaCxz
namespace Go.Proofs.Ytpjocgebnodnoaa
open Go.RowKit
set_option linter.unusedVariables false
set_option linter.unusedSimpArgs false
structure Inv (side : Int) (t : List Int) (s : Nat) (arr : List Int) : Prop where
  len : arr.length = 256
  old : ∀ j, j < s → pcN j ≤ t.length → Val side t j (nt arr j 0)
  new : ∀ j, s ≤ j → j < 256 → nt arr j 0 = farN
theorem farN_is : farN = 1048576 := rfl
theorem pc_pos : ∀ s : Fin 256, s.val ≠ 0 → pcN s.val ≠ 0 := by decide +kernel
theorem least2 {side : Int} {t : List Int} (ht : ∀ x ∈ t, 0 ≤ x ∧ x < 64) {s : Nat} (hs : s < 256) (h0 : s ≠ 0) (hl : pcN s ≤ t.length) (hg : goneZ side (nt t (pcN s - 1) 0) ≤ 5) : ∀ (d f : Nat) (arr : List Int), f + d = 8 →
    arr.length = 256 → (∀ j, j < s → pcN j ≤ t.length → Val side t j (nt arr j 0)) → (∀ j, s < j → j < 256 → nt arr j 0 = farN) → ValF side t s f (nt arr s 0) →
    ∃ arr', Inv side t (s + 1) arr' ∧ ∀ k, i_count_Least.l2 (k + d + 1) side s t (pcN s : Int) f arr = i_count_Least.l1 k side t ((s + 1 : Nat) : Int) arr' := by
  have hp := pc_pos ⟨s, hs⟩ h0
  have hp : pcN s ≠ 0 := hp
  have hpb : pcN s ≤ 8 := by unfold pcN; exact Nat.le_trans (List.length_filter_le _ _) (by simp)
  have hmem : nt t (pcN s - 1) 0 ∈ t := by unfold nt; rw [List.getD_eq_getElem?_getD, List.getElem?_eq_getElem (show pcN s - 1 < t.length by omega)]; exact List.getElem_mem _
  have hx := ht _ hmem
  have es1 : wrap64 ((s : Int) + 1) = ((s + 1 : Nat) : Int) := by rw [q64 (by omega) (by omega)]; rfl
  intro d
  induction d with
  | zero =>
    intro f arr hf hlen hold hnew hv
    have hv2 := (show f = 8 by omega) ▸ hv
    refine ⟨arr, ⟨hlen, fun j hj hjl => ?_, fun j hj hj2 => hnew j (by omega) hj2⟩, fun k => ?_⟩
    · by_cases e : j < s
      · exact hold j e hjl
      · rw [show j = s by omega]; exact hv2.done hp hl
    · rw [i_count_Least.l2, if_neg (by omega), es1]
  | succ d ih =>
    intro f arr hf hlen hold hnew hv
    have ef : wrap64 ((f : Int) + 1) = ((f + 1 : Nat) : Int) := by rw [q64 (by omega) (by omega)]; rfl
    have hbit := bit_is hs (show f < 8 by omega)
    have eP : wrap64 ((pcN s : Int) - 1) = ((pcN s - 1 : Nat) : Int) := by rw [q64 (by omega) (by omega)]; omega
    cases hb : s.testBit f with
    | false =>
      obtain ⟨arr', hi, he⟩ := ih (f + 1) arr (by omega) hlen hold hnew (hv.skip hl hb)
      refine ⟨arr', hi, fun k => ?_⟩
      rw [show k + (d + 1) + 1 = (k + d + 1) + 1 by omega, i_count_Least.l2, if_pos (by omega), if_pos (by omega), if_pos (by omega), Option.bind_some, Int.toNat_natCast, if_pos (hbit.1.2 hb), ef]
      exact he k
    | true =>
      have hd := set_down hs (show f < 8 by omega) hb
      have hlt : s - 2 ^ f < s := Nat.sub_lt (by omega) (Nat.two_pow_pos f)
      have hup := set_up (Nat.lt_trans hlt hs) (show f < 8 by omega) hd.2
      rw [Nat.sub_add_cancel hd.1] at hup
      have hu := hold (s - 2 ^ f) hlt (by omega)
      have hst := hv.step hs (by omega) hl hb hu hg
      have hub := hu.1; have hub0 := hu.2.1
      have ha0 : 0 ≤ awayZ (nt t (pcN s - 1) 0) side f ∧ awayZ (nt t (pcN s - 1) 0) side f ≤ farN := by
        have := co1_nn (nt t (pcN s - 1) 0, f); have := goneZ_bd side hx.1 hx.2
        unfold awayZ farN; split <;> omega
      have c4 : ((pcN s - 1 : Nat) : Int) < (t.length : Int) := by omega
      have c3 : ((s - 2 ^ f : Nat) : Int) < 256 := by omega
      have ew : wrap64 (nt arr (s - 2 ^ f) 0 + awayZ (nt t (pcN s - 1) 0) side f) = nt arr (s - 2 ^ f) 0 + awayZ (nt t (pcN s - 1) 0) side f := q64 (by omega) (by rw [farN_is] at *; omega)
      have step : ∀ v', ValF side t s (f + 1) v' → ∃ arr', Inv side t (s + 1) arr' ∧ ∀ k, i_count_Least.l2 (k + d + 1) side s t (pcN s : Int) ((f + 1 : Nat) : Int) (arr.set s v') = i_count_Least.l1 k side t ((s + 1 : Nat) : Int) arr' := by
        intro v' hv'
        refine ih (f + 1) (arr.set s v') (by omega) (by rw [List.length_set]; exact hlen) (fun j hj hjl => ?_) (fun j hj hj2 => ?_) ?_
        · rw [nt_set_ne (by omega)]; exact hold j hj hjl
        · rw [nt_set_ne (by omega)]; exact hnew j hj hj2
        · rw [nt_set_eq (by omega)]; exact hv'
      have head : ∀ k, i_count_Least.l2 (k + (d + 1) + 1) side s t (pcN s : Int) f arr = (if nt arr (s - 2 ^ f) 0 + awayZ (nt t (pcN s - 1) 0) side f < nt arr s 0 then i_count_Least.l2 (k + d + 1) side s t (pcN s : Int) ((f + 1 : Nat) : Int) (arr.set s (nt arr (s - 2 ^ f) 0 + awayZ (nt t (pcN s - 1) 0) side f)) else i_count_Least.l2 (k + d + 1) side s t (pcN s : Int) ((f + 1 : Nat) : Int) (arr.set s (nt arr s 0))) := by
        intro k
        rw [show k + (d + 1) + 1 = (k + d + 1) + 1 by omega, i_count_Least.l2, if_pos (by omega), if_pos (by omega), if_pos (by omega), Option.bind_some, Int.toNat_natCast, if_neg (fun hh => by rw [hbit.1.1 hh] at hb; cases hb), if_pos (by omega), if_pos (by omega), Option.bind_some, hbit.2 hb, if_pos (by omega), if_pos c3, eP, if_pos (by omega), if_pos c4, Int.toNat_natCast, qAway hx.1 hx.2 (by omega), Option.bind_some, Int.toNat_natCast, Int.toNat_natCast, ew, ef]
      by_cases hc : nt arr (s - 2 ^ f) 0 + awayZ (nt t (pcN s - 1) 0) side f < nt arr s 0
      · rw [if_pos hc] at hst
        obtain ⟨arr', hi, he⟩ := step _ hst
        exact ⟨arr', hi, fun k => by rw [head, if_pos hc]; exact he k⟩
      · rw [if_neg hc] at hst
        obtain ⟨arr', hi, he⟩ := step _ hst
        exact ⟨arr', hi, fun k => by rw [head, if_neg hc]; exact he k⟩
theorem least1 {side : Int} {t : List Int} (ht : ∀ x ∈ t, 0 ≤ x ∧ x < 64) : ∀ (d s : Nat) (arr : List Int), s + d = 256 → s ≠ 0 → Inv side t s arr →
    ∃ arr' m, Inv side t 256 arr' ∧ m ≤ 10 * d + 1 ∧ ∀ k, i_count_Least.l1 (k + m) side t s arr = i_count_Least.l3 k arr' t 1048576 0 := by
  intro d
  induction d with
  | zero =>
    intro s arr hs h0 hi
    exact ⟨arr, 1, (show s = 256 by omega) ▸ hi, by omega, fun k => by rw [i_count_Least.l1, if_neg (by omega)]⟩
  | succ d ih =>
    intro s arr hs h0 hi
    have es1 : wrap64 ((s : Int) + 1) = ((s + 1 : Nat) : Int) := by rw [q64 (by omega) (by omega)]; rfl
    have hp : pcN s ≠ 0 := pc_pos ⟨s, by omega⟩ h0
    have hpb : pcN s ≤ 8 := by unfold pcN; exact Nat.le_trans (List.length_filter_le _ _) (by simp)
    have skip : (pcN s ≤ t.length → ∀ ps, ¬ Sol side t s ps) → Inv side t (s + 1) arr := fun hno => ⟨hi.len, fun j hj hjl => by
        by_cases e : j < s
        · exact hi.old j e hjl
        · have e2 : j = s := by omega
          subst e2; rw [hi.new j (by omega) (by omega)]; exact Val.far (hno hjl), fun j hj hj2 => hi.new j (by omega) hj2⟩
    by_cases hl : pcN s ≤ t.length
    · have hmem : nt t (pcN s - 1) 0 ∈ t := by unfold nt; rw [List.getD_eq_getElem?_getD, List.getElem?_eq_getElem (show pcN s - 1 < t.length by omega)]; exact List.getElem_mem _
      have hx := ht _ hmem
      have eP : wrap64 ((pcN s : Int) - 1) = ((pcN s - 1 : Nat) : Int) := by rw [q64 (by omega) (by omega)]; omega
      have c1 : ((pcN s - 1 : Nat) : Int) < (t.length : Int) := by omega
      have head : ∀ k, i_count_Least.l1 (k + 1) side t s arr = (if goneZ side (nt t (pcN s - 1) 0) < 0 then i_count_Least.l1 k side t ((s + 1 : Nat) : Int) arr else if goneZ side (nt t (pcN s - 1) 0) > 5 then i_count_Least.l1 k side t ((s + 1 : Nat) : Int) arr else i_count_Least.l2 k side s t (pcN s : Int) 0 arr) := by
        intro k
        rw [i_count_Least.l1, if_pos (by omega), pc_is (by omega), Option.bind_some, if_neg (by omega), eP, if_pos (by omega), if_pos c1, Int.toNat_natCast, qGone hx.1 hx.2, Option.bind_some, Option.bind_some, es1]
      have nosol : (goneZ side (nt t (pcN s - 1) 0) < 0 ∨ goneZ side (nt t (pcN s - 1) 0) > 5) → ∀ ps, ¬ Sol side t s ps := by
        intro hb ps hsol
        have hne : ps ≠ [] := fun e => by have := sol_len hsol; rw [e] at this; exact hp this.symm
        obtain ⟨qs, p, rfl⟩ := snoc_of hne
        obtain ⟨k1, k2, _⟩ := sol_last hsol hl
        have := co1_bd k1; have := k1.2.1; have := k1.2.2
        rw [k2] at *; omega
      by_cases g0 : goneZ side (nt t (pcN s - 1) 0) < 0
      · obtain ⟨arr', m, a1, a2, a3⟩ := ih (s + 1) arr (by omega) (by omega) (skip fun _ => nosol (.inl g0))
        exact ⟨arr', m + 1, a1, by omega, fun k => by rw [← Nat.add_assoc, head, if_pos g0]; exact a3 k⟩
      · by_cases g1 : goneZ side (nt t (pcN s - 1) 0) > 5
        · obtain ⟨arr', m, a1, a2, a3⟩ := ih (s + 1) arr (by omega) (by omega) (skip fun _ => nosol (.inr g1))
          exact ⟨arr', m + 1, a1, by omega, fun k => by rw [← Nat.add_assoc, head, if_neg g0, if_pos g1]; exact a3 k⟩
        · obtain ⟨arr2, b1, b2⟩ := least2 ht (show s < 256 by omega) h0 hl (by omega) 8 0 arr rfl hi.len hi.old (fun j hj hj2 => hi.new j (by omega) hj2) (by rw [hi.new s (by omega) (by omega)]; exact ValF.start)
          obtain ⟨arr', m, a1, a2, a3⟩ := ih (s + 1) arr2 (by omega) (by omega) b1
          exact ⟨arr', m + 10, a1, by omega, fun k => by
            rw [show k + (m + 10) = (k + m + 8 + 1) + 1 by omega, head, if_neg g0, if_neg g1]
            exact (b2 (k + m)).trans (a3 k)⟩
    · obtain ⟨arr', m, a1, a2, a3⟩ := ih (s + 1) arr (by omega) (by omega) (skip fun h => absurd h hl)
      exact ⟨arr', m + 1, a1, by omega, fun k => by
        rw [← Nat.add_assoc, i_count_Least.l1, if_pos (by omega), pc_is (by omega), Option.bind_some, if_pos (by omega), es1]; exact a3 k⟩
def Upto (side : Int) (t : List Int) (s : Nat) (v : Int) : Prop := v ≤ farN ∧ 0 ≤ v ∧ (v < farN → ∃ ps, Fit side ps ∧ ps.map (·.1) = t ∧ cost ps = v) ∧ ∀ ps, Fit side ps → ps.map (·.1) = t → mask ps < s → v ≤ cost ps
theorem least3 {side : Int} {t : List Int} {arr : List Int} (hi : Inv side t 256 arr) : ∀ (d s : Nat) (v : Int), s + d = 256 → Upto side t s v →
    ∃ v', Upto side t 256 v' ∧ ∀ k, i_count_Least.l3 (k + d + 1) arr t v s = some (if v' ≥ 1048576 then (0, false) else (v', true)) := by
  intro d
  induction d with
  | zero =>
    intro s v hs hv
    refine ⟨v, (show s = 256 by omega) ▸ hv, fun k => ?_⟩
    rw [i_count_Least.l3, if_neg (by omega)]; split <;> rfl
  | succ d ih =>
    intro s v hs hv
    have es1 : wrap64 ((s : Int) + 1) = ((s + 1 : Nat) : Int) := by rw [q64 (by omega) (by omega)]; rfl
    have hpb : pcN s ≤ 8 := by unfold pcN; exact Nat.le_trans (List.length_filter_le _ _) (by simp)
    by_cases hl : pcN s = t.length
    · have hval := hi.old s (by omega) (by omega)
      have full : ∀ ps, Fit side ps → ps.map (·.1) = t → mask ps = s → Sol side t s ps := fun ps h1 h2 h3 => ⟨h1, by rw [hl, List.take_length]; exact h2, h3⟩
      by_cases hc : nt arr s 0 < v
      · obtain ⟨v', a1, a2⟩ := ih (s + 1) (nt arr s 0) (by omega) ⟨hval.1, hval.2.1, fun h => by
            obtain ⟨ps, b1, b2⟩ := hval.2.2.1 h
            exact ⟨ps, b1.1, by rw [b1.2.1, hl, List.take_length], b2⟩, fun ps h1 h2 h3 => by
            by_cases e : mask ps < s
            · have := hv.2.2.2 ps h1 h2 e; omega
            · exact hval.2.2.2 ps (full ps h1 h2 (by omega))⟩
        exact ⟨v', a1, fun k => by
          rw [show k + (d + 1) + 1 = (k + d + 1) + 1 by omega, i_count_Least.l3, if_pos (by omega), pc_is (by omega), Option.bind_some, if_pos (by omega), if_pos (by omega), Int.toNat_natCast, if_pos hc, es1]; exact a2 k⟩
      · obtain ⟨v', a1, a2⟩ := ih (s + 1) v (by omega) ⟨hv.1, hv.2.1, hv.2.2.1, fun ps h1 h2 h3 => by
            by_cases e : mask ps < s
            · exact hv.2.2.2 ps h1 h2 e
            · have := hval.2.2.2 ps (full ps h1 h2 (by omega)); omega⟩
        exact ⟨v', a1, fun k => by
          rw [show k + (d + 1) + 1 = (k + d + 1) + 1 by omega, i_count_Least.l3, if_pos (by omega), pc_is (by omega), Option.bind_some, if_pos (by omega), if_pos (by omega), Int.toNat_natCast, if_neg hc, es1]; exact a2 k⟩
    · obtain ⟨v', a1, a2⟩ := ih (s + 1) v (by omega) ⟨hv.1, hv.2.1, hv.2.2.1, fun ps h1 h2 h3 => by
          by_cases e : mask ps < s
          · exact hv.2.2.2 ps h1 h2 e
          · have := mask_is h1
            rw [show mask ps = s by omega] at this
            exact absurd (this.2.1.trans (by rw [← h2, List.length_map])) hl⟩
      exact ⟨v', a1, fun k => by
        rw [show k + (d + 1) + 1 = (k + d + 1) + 1 by omega, i_count_Least.l3, if_pos (by omega), pc_is (by omega), Option.bind_some, if_neg (by omega), es1]; exact a2 k⟩
theorem least0 (side : Int) (t : List Int) : ∀ (d i : Nat) (arr : List Int), i + d = 256 → arr.length = 256 → (∀ j, j < i → nt arr j 0 = farN) →
    ∃ arr', arr'.length = 256 ∧ (∀ j, j < 256 → nt arr' j 0 = farN) ∧ ∀ k, i_count_Least.l0 (k + d + 1) side t i arr = i_count_Least.l1 k side t 1 (arr'.set 0 0) := by
  intro d
  induction d with
  | zero => intro i arr hi hl ha; exact ⟨arr, hl, fun j hj => ha j (by omega), fun k => by rw [i_count_Least.l0, if_neg (by omega)]⟩
  | succ d ih =>
    intro i arr hi hl ha
    have es1 : wrap64 ((i : Int) + 1) = ((i + 1 : Nat) : Int) := by rw [q64 (by omega) (by omega)]; rfl
    obtain ⟨arr', a1, a2, a3⟩ := ih (i + 1) (arr.set i 1048576) (by omega) (by rw [List.length_set]; exact hl) (fun j hj => by
      by_cases e : j = i
      · subst e; rw [nt_set_eq (by omega)]; rfl
      · rw [nt_set_ne (by omega)]; exact ha j (by omega))
    exact ⟨arr', a1, a2, fun k => by rw [show k + (d + 1) + 1 = (k + d + 1) + 1 by omega, i_count_Least.l0, if_pos (by omega), if_pos (by omega), Int.toNat_natCast, es1]; exact a3 k⟩
def outZ (v : Int) : Int × Bool := if v < 0 then (0, false) else (v, true)
theorem fit_len {side : Int} {ps : List (Int × Nat)} (h : Fit side ps) : ps.length ≤ 8 := by
  have := (mask_is h).2.1; rw [← this]; unfold pcN; exact Nat.le_trans (List.length_filter_le _ _) (by simp)
theorem qLeast {l : List Int} (h : B8 l) {side : Int} (ho : okB l = true) (hs : side = 0 ∨ side = 1) : ∃ v, Best side (whereZ l (sg side 1)) v ∧ ∀ k, 4000 < k → i_count_Least.f k l side = some (outZ v) := by
  have ht : ∀ x ∈ whereZ l (sg side 1), 0 ≤ x ∧ x < 64 := fun x hx => mem_where hx
  by_cases hl : (whereZ l (sg side 1)).length ≤ 8
  · obtain ⟨arr0, a1, a2, a3⟩ := least0 side (whereZ l (sg side 1)) 256 0 (List.replicate 256 0) rfl List.length_replicate (fun j hj => absurd hj (by omega))
    obtain ⟨arr1, m, b1, b2, b3⟩ := least1 (side := side) ht 255 1 (arr0.set 0 0) rfl (by omega) ⟨by rw [List.length_set]; exact a1, fun j hj _ => by
        rw [show j = 0 by omega, nt_set_eq (by omega)]; exact Val.zero _ _, fun j hj hj2 => by rw [nt_set_ne (by omega)]; exact a2 j hj2⟩
    obtain ⟨v, c1, c2⟩ := least3 b1 256 0 farN rfl ⟨Int.le_refl _, by unfold farN; omega, fun h => absurd h (by omega), fun _ _ _ h => absurd h (by omega)⟩
    refine ⟨if v ≥ 1048576 then -1 else v, ?_, fun k hk => ?_⟩
    · by_cases hv : v ≥ 1048576
      · rw [if_pos hv]
        refine .inl ⟨rfl, fun ps hf e => ?_⟩
        have h1 := c1.2.2.2 ps hf e (mask_is hf).1
        have h2 := cost_le hf; have h3 := fit_len hf
        omega
      · rw [if_neg hv]
        exact .inr ⟨c1.2.2.1 (by rw [farN_is]; omega), fun ps hf e => c1.2.2.2 ps hf e (mask_is hf).1⟩
    · obtain ⟨k', rfl⟩ : ∃ k', k = (k' + 256 + 1) + m + 256 + 1 := ⟨k - 514 - m, by omega⟩
      have e0 := c2 k'
      rw [i_count_Least.f, qKnown h side (by omega), ho, decide_eq_true hs, Option.bind_some, Bool.and_self, if_pos rfl, qmMake, Option.bind_some, make_sg (by omega) (by omega) hs, qbWhere h _ (by omega), Option.bind_some, if_neg (by omega)]
      refine (a3 _).trans ((b3 _).trans (e0.trans ?_))
      have := c1.2.1
      unfold outZ
      by_cases hv : v ≥ 1048576
      · rw [if_pos hv, if_pos hv, if_pos (by omega)]
      · rw [if_neg hv, if_neg hv, if_neg (by omega)]
  · refine ⟨-1, .inl ⟨rfl, fun ps hf e => ?_⟩, fun k hk => ?_⟩
    · have := fit_len hf; rw [← List.length_map (f := (·.1)), e] at this; exact hl this
    · rw [i_count_Least.f, qKnown h side (by omega), ho, decide_eq_true hs, Option.bind_some, Bool.and_self, if_pos rfl, qmMake, Option.bind_some, make_sg (by omega) (by omega) hs, qbWhere h _ (by omega), Option.bind_some, if_pos (by omega)]; rfl
end Go.Proofs.Ytpjocgebnodnoaa
