/- The laws StipWrites, StipCut in plain words. -/
import Derived.Test.YtabbkeliknidgaaDoorSk
namespace Go.Proofs.YtabbkeliknidgaaDoor
open Go.RowKit
set_option linter.unusedVariables false
set_option linter.unusedSimpArgs false
set_option maxRecDepth 100000
theorem all4 {p : Nat → Nat → Nat → Bool → Bool} (H : ((List.range 9).all fun k => (List.range 3).all fun g => (List.range 65).all fun n => [true, false].all fun h => p k g n h) = true) {k g n : Nat} (hk : k < 9) (hg : g < 3) (hn : n < 65) (h : Bool) : p k g n h = true := by
  simp only [List.all_eq_true, List.mem_range] at H
  exact H k hk g hg n hn h (by cases h <;> simp)
theorem sx_nat {k g n : Int} {h : Bool} (hr : rightZ k g n h = true) : ∃ k' g' n' : Nat, k = k' ∧ g = g' ∧ n = n' ∧ k' < 9 ∧ g' < 3 ∧ n' < 65 := by
  obtain ⟨h1, h2, h3, h4, _⟩ := rightZ_n hr
  obtain ⟨h5, h6⟩ := rightZ_g hr
  exact ⟨k.toNat, g.toNat, n.toNat, by omega, by omega, by omega, by omega, by omega, by omega⟩
theorem sx_write_no {k g n : Int} {h : Bool} (hr : rightZ k g n h = false) : i_stip_Write.f k g n h = some (⟨#[]⟩, false) := by
  unfold i_stip_Write.f
  rw [sm_right, hr]
  simp only [Option.bind_some]
  rw [if_neg (by decide)]
theorem writes_is (k g n : Int) (h : Bool) : i_alfillaw15_StipWrites.f 30000 k g n h = some true := by
  cases hr : rightZ k g n h with
  | true =>
    obtain ⟨k', g', n', rfl, rfl, rfl, h1, h2, h3⟩ := sx_nat hr
    exact eq_of_beq (all4 sx_writes h1 h2 h3 h)
  | false =>
    unfold i_alfillaw15_StipWrites.f
    rw [sx_wakes, sx_write_no hr, sm_ref, sm_plies, hr]
    unfold i_stip_Begins.f
    rw [sm_right, hr]
    simp only [Option.bind_some, if_true]
    rw [if_neg (by decide)]
    rw [if_pos (by decide +kernel), if_neg (by decide)]
    simp
theorem cut_read {k g n : Int} {h : Bool} {t m : ByteArray} (hw : i_stip_Write.f k g n h = some (t, true)) (hB : cutB k g n h = true) (hm : 0 < m.size) (hb : ¬ (48 ≤ bt (t ++ m) t.size ∧ bt (t ++ m) t.size ≤ 57)) (hd : bt (t ++ m) t.size ≠ 46) : stipZ (t ++ m) 0 = (k, g, n, h, (t.size : Int), 0, 0) := by
  unfold cutB at hB
  rw [hw] at hB
  simp only [Bool.and_eq_true, decide_eq_true_eq] at hB
  obtain ⟨⟨⟨⟨h1, h2⟩, h3⟩, h4⟩, h5⟩ := hB
  have one0 : oneZ t 0 wordsL = oneF t 0 wordsL 15 0 := by rw [one_in words_apart]; rfl
  unfold stipZ stipF
  rw [one_goes m words_apart (.inr (by rw [one0]; exact h1)), one0]
  generalize oneF t 0 wordsL 15 0 = x at *
  generalize hs : nt stipsL x.2.1.toNat (0, 0, 0, false) = s at *
  obtain ⟨s1, s2, s3, s4⟩ := s
  simp only at h2 h3 h4
  subst h2 h3 h4
  rw [if_pos h1]
  simp only []
  by_cases hk : s1 = 5
  · rw [if_pos hk] at h5
    simp only [Bool.and_eq_true, decide_eq_true_eq] at h5
    obtain ⟨⟨h6, h7⟩, h8⟩ := h5
    rw [if_pos hk]
    cases h with
    | true =>
      rw [if_pos rfl] at h8
      simp only [Bool.and_eq_true, decide_eq_true_eq] at h8
      obtain ⟨⟨⟨h9, h10⟩, h11⟩, h12⟩ := h8
      rw [num_app m h9 (by omega), word_app m (.inr (by rw [h12])), h12]
      rw [if_pos h6]
      rw [if_pos rfl, if_pos (⟨by have := size_app t m; omega, by rw [bt_app t m (by omega)]; exact h11⟩ : (numZ t x.1 0 64).1 < ((t ++ m).size : Int) ∧ bt (t ++ m) (numZ t x.1 0 64).1.toNat = 46), h7]
      split <;> rfl
    | false =>
      simp only [Bool.false_eq_true, if_false, Bool.and_eq_true, decide_eq_true_eq] at h8
      have e : numZ t x.1 0 64 = ((t.size : Int), n, 0) := by
        rcases hq : numZ t x.1 0 64 with ⟨q1, q2, q3⟩
        rw [hq] at h6 h7 h8
        simp only at h6 h7 h8
        rw [h6, h7, h8.1]
      rw [num_stop e hm hb]
      simp only [if_true]
      rw [if_neg h8.2, if_neg (by rw [Int.toNat_natCast]; exact fun hc => hd hc.2)]
  · rw [if_neg hk] at h5
    simp only [Bool.and_eq_true, decide_eq_true_eq, Bool.not_eq_true'] at h5
    obtain ⟨h6, h7⟩ := h5
    subst h6
    rw [if_neg hk, num_stop h7 hm hb]
    simp
theorem sx_tmod {a n : Int} (ha : 0 ≤ a) (hn : 0 < n) : 0 ≤ Int.tmod a n ∧ Int.tmod a n < n := by
  rw [Int.tmod_eq_emod_of_nonneg ha]
  exact ⟨Int.emod_nonneg _ (by omega), Int.emod_lt_of_pos _ hn⟩
theorem nums_one (b : Int) : (strOfNums [b]).data.toList = [UInt8.ofNat b.toNat] := by
  simp [strOfNums]
theorem nums_size (b : Int) : (strOfNums [b]).size = 1 := by
  have := nums_one b
  have h2 : (strOfNums [b]).data.toList.length = 1 := by rw [this]; rfl
  simpa using h2
theorem cut_is (k g n : Int) (h : Bool) (a b : Int) (ha0 : 0 ≤ a) (ha : a ≤ 255) (hb0 : 0 ≤ b) (hb : b ≤ 255) : i_alfillaw15_StipCut.f 30000 k g n h a b = some true := by
  unfold i_alfillaw15_StipCut.f
  rw [sx_wakes]
  simp only [Option.bind_some, if_true]
  cases hr : rightZ k g n h with
  | false =>
    rw [sx_write_no hr, sm_ref, hr]
    simp
  | true =>
    obtain ⟨k', g', n', rfl, rfl, rfl, h1, h2, h3⟩ := sx_nat hr
    have HA := all4 cutA_all h1 h2 h3 h
    have HB := all4 cutB_all h1 h2 h3 h
    have HA' := HA
    unfold cutA at HA
    cases hw : i_stip_Write.f k' g' n' h with
    | none => rw [hw] at HA; simp at HA
    | some r =>
      obtain ⟨t, ok⟩ := r
      simp only [Option.bind_some]
      cases ok with
      | false =>
        rw [hw] at HA
        simp [hr] at HA
      | true =>
        rw [hw] at HA
        simp only [Bool.and_eq_true, decide_eq_true_eq] at HA
        obtain ⟨⟨ht0, ht1⟩, HA⟩ := HA
        rw [List.all_eq_true] at HA
        rw [if_pos rfl, if_neg (by omega)]
        have hw64 : wrap64 a = a := sm_w64 (by omega) (by omega)
        rw [hw64]
        obtain ⟨m0, m1⟩ := sx_tmod (a := a) (n := (t.size : Int)) ha0 (by omega)
        generalize hj : Int.tmod a (t.size : Int) = j at *
        obtain ⟨i, rfl⟩ : ∃ i : Nat, j = i := ⟨j.toNat, by omega⟩
        rw [if_pos m0, if_pos (by omega), Int.toNat_natCast]
        have HJ := HA i (by simp; omega)
        rw [stip_is (t := t.extract 0 i) (by simp; omega), stipZ_0]
        revert HJ
        generalize stipF (t.extract 0 i) (oneF (t.extract 0 i) 0 wordsL 15 0) = x
        obtain ⟨x1, x2, x3, x4, x5, x6, x7⟩ := x
        intro HJ
        · simp only [Bool.and_eq_true, Bool.or_eq_true, decide_eq_true_eq] at HJ
          obtain ⟨q1, q2⟩ := HJ
          simp only [Option.bind_some]
          have hs := nums_size b
          rw [if_pos (by omega), stip_is (by rw [size_app]; omega)]
          simp only [Option.bind_some]
          rw [if_neg q1]
          have key : ¬ (48 ≤ b ∧ b ≤ 57) → b ≠ 46 → stipZ (t ++ strOfNums [b]) 0 = ((k' : Int), (g' : Int), (n' : Int), h, (t.size : Int), 0, 0) := fun c1 c2 => by
            have eb := bt_at t b hb0 hb (strOfNums [b]) (nums_one b)
            exact cut_read hw HB (by omega) (by rw [eb]; exact c1) (by rw [eb]; exact c2)
          have fin : (if b ≥ 48 then if b ≤ 57 then some true else if b = 46 then some true else if ((stipZ (t ++ strOfNums [b]) 0).1 == (k' : Int) && ((stipZ (t ++ strOfNums [b]) 0).2.1 == (g' : Int) && ((stipZ (t ++ strOfNums [b]) 0).2.2.1 == (n' : Int) && (stipZ (t ++ strOfNums [b]) 0).2.2.2.1 == h))) = true then if ((stipZ (t ++ strOfNums [b]) 0).2.2.2.2.1 == (t.size : Int) && ((stipZ (t ++ strOfNums [b]) 0).2.2.2.2.2.1 == 0 && (stipZ (t ++ strOfNums [b]) 0).2.2.2.2.2.2 == 0)) = true then some true else some false else some false else if b = 46 then some true else if ((stipZ (t ++ strOfNums [b]) 0).1 == (k' : Int) && ((stipZ (t ++ strOfNums [b]) 0).2.1 == (g' : Int) && ((stipZ (t ++ strOfNums [b]) 0).2.2.1 == (n' : Int) && (stipZ (t ++ strOfNums [b]) 0).2.2.2.1 == h))) = true then if ((stipZ (t ++ strOfNums [b]) 0).2.2.2.2.1 == (t.size : Int) && ((stipZ (t ++ strOfNums [b]) 0).2.2.2.2.2.1 == 0 && (stipZ (t ++ strOfNums [b]) 0).2.2.2.2.2.2 == 0)) = true then some true else some false else some false) = some true := by
            by_cases c2 : b = 46
            · rw [if_pos c2]; (repeat' split) <;> rfl
            · rw [if_neg c2]
              by_cases c1 : 48 ≤ b ∧ b ≤ 57
              · rw [if_pos c1.1, if_pos c1.2]
              · rw [key c1 c2]
                simp
          by_cases q : x7 = 1
          · rw [if_pos q, if_pos (by rcases q2 with q2 | q2; exact absurd q q2; exact q2)]
            exact fin
          · rw [if_neg q]
            exact fin
theorem walk_StipWrites (k g n : Int) (h : Bool) (w : World) :
    Calls Tryd.prog 3 #[.agg #[.int .i64 k, .int .i64 g, .int .i64 n, .bool h]] w fun e w' => e = .returned (.bool true) ∧ Below w.heap.size w w' :=
  i_alfillaw15_StipWrites.calls 30000 k g n h true w (writes_is k g n h)
theorem walk_StipCut (k g n : Int) (h : Bool) (a b : Int) (ha : (Lit.int .u8 a).wf = true) (hb : (Lit.int .u8 b).wf = true) (w : World) :
    Calls Tryd.prog 4 #[.agg #[.int .i64 k, .int .i64 g, .int .i64 n, .bool h], .int .u8 a, .int .u8 b] w fun e w' => e = .returned (.bool true) ∧ Below w.heap.size w w' := by
  have h1 : 0 ≤ a ∧ a ≤ 255 := by simpa [Lit.wf, IntKind.min, IntKind.max, IntKind.signed, IntKind.bits] using ha
  have h2 : 0 ≤ b ∧ b ≤ 255 := by simpa [Lit.wf, IntKind.min, IntKind.max, IntKind.signed, IntKind.bits] using hb
  exact i_alfillaw15_StipCut.calls 30000 k g n h a b true w (cut_is k g n h a b h1.1 h1.2 h2.1 h2.2)
end Go.Proofs.YtabbkeliknidgaaDoor
