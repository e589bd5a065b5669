import Derived.Test.YtpjocgebnodnoaaProg
import Derived.Test.YtpjocgebnodnoaaKez
namespace Go.Proofs.Ytpjocgebnodnoaa
open Go.RowKit
set_option linter.unusedVariables false
set_option linter.unusedSimpArgs false
set_option maxRecDepth 100000
theorem fa46_3_0 (g : Nat) (w : World) : (Instr.fieldAt 46 (.pointer (some ⟨g, 0, none⟩)) 3).run Try.prog w = .ok (.pointer (some ⟨g, 66, none⟩)) w := by kernel_rfl
def i_alfilref08_Passed.f (k : Nat) (a0_0 : List Int) (a0_1 : Int) (a0_2 : Int) (a0_3 : Int) : Option (Int) := if a0_3 < 0 then (some (-1)) else (if a0_3 > 63 then (some (-1)) else (if a0_1 = 0 then ((i_alfilref01_Rank.f k a0_3).bind fun t2 => (if t2 = 5 then (if 0 ≤ a0_3 then (if a0_3 < 64 then (if (nt a0_0 a0_3.toNat 0) = 0 then (if 0 ≤ (wrap64 (a0_3 + 8)) then (if (wrap64 (a0_3 + 8)) < 64 then (if (nt a0_0 ((wrap64 (a0_3 + 8)).toNat) 0) = 0 then (if 0 ≤ (wrap64 (a0_3 - 8)) then (if (wrap64 (a0_3 - 8)) < 64 then (if (nt a0_0 ((wrap64 (a0_3 - 8)).toNat) 0) = (-1) then (some (wrap64 (a0_3 - 8))) else (if a0_1 = 1 then ((i_alfilref01_Rank.f k a0_3).bind fun t3 => (if t3 = 2 then (if (nt a0_0 ((wrap64 (a0_3 - 8)).toNat) 0) = 0 then (if (nt a0_0 ((wrap64 (a0_3 + 8)).toNat) 0) = 1 then (some (wrap64 (a0_3 + 8))) else (some (-1))) else (some (-1))) else (some (-1)))) else (some (-1)))) else (none)) else (none)) else (if a0_1 = 1 then ((i_alfilref01_Rank.f k a0_3).bind fun t4 => (if t4 = 2 then (if 0 ≤ (wrap64 (a0_3 - 8)) then (if (wrap64 (a0_3 - 8)) < 64 then (if (nt a0_0 ((wrap64 (a0_3 - 8)).toNat) 0) = 0 then (if (nt a0_0 ((wrap64 (a0_3 + 8)).toNat) 0) = 1 then (some (wrap64 (a0_3 + 8))) else (some (-1))) else (some (-1))) else (none)) else (none)) else (some (-1)))) else (some (-1)))) else (none)) else (none)) else (if a0_1 = 1 then ((i_alfilref01_Rank.f k a0_3).bind fun t5 => (if t5 = 2 then (some (-1)) else (some (-1)))) else (some (-1)))) else (none)) else (none)) else (if a0_1 = 1 then ((i_alfilref01_Rank.f k a0_3).bind fun t6 => (if t6 = 2 then (if 0 ≤ a0_3 then (if a0_3 < 64 then (if (nt a0_0 a0_3.toNat 0) = 0 then (if 0 ≤ (wrap64 (a0_3 - 8)) then (if (wrap64 (a0_3 - 8)) < 64 then (if (nt a0_0 ((wrap64 (a0_3 - 8)).toNat) 0) = 0 then (if 0 ≤ (wrap64 (a0_3 + 8)) then (if (wrap64 (a0_3 + 8)) < 64 then (if (nt a0_0 ((wrap64 (a0_3 + 8)).toNat) 0) = 1 then (some (wrap64 (a0_3 + 8))) else (some (-1))) else (none)) else (none)) else (some (-1))) else (none)) else (none)) else (some (-1))) else (none)) else (none)) else (some (-1)))) else (some (-1))))) else (if a0_1 = 1 then ((i_alfilref01_Rank.f k a0_3).bind fun t7 => (if t7 = 2 then (if 0 ≤ a0_3 then (if a0_3 < 64 then (if (nt a0_0 a0_3.toNat 0) = 0 then (if 0 ≤ (wrap64 (a0_3 - 8)) then (if (wrap64 (a0_3 - 8)) < 64 then (if (nt a0_0 ((wrap64 (a0_3 - 8)).toNat) 0) = 0 then (if 0 ≤ (wrap64 (a0_3 + 8)) then (if (wrap64 (a0_3 + 8)) < 64 then (if (nt a0_0 ((wrap64 (a0_3 + 8)).toNat) 0) = 1 then (some (wrap64 (a0_3 + 8))) else (some (-1))) else (none)) else (none)) else (some (-1))) else (none)) else (none)) else (some (-1))) else (none)) else (none)) else (some (-1)))) else (some (-1)))))
set_option maxHeartbeats 40000000 in
set_option maxRecDepth 100000 in
theorem i_alfilref08_Passed.calls (k : Nat) (a0_0 : List Int) (a0_1 : Int) (a0_2 : Int) (a0_3 : Int) (hla0_0 : a0_0.length = 64) (r1 : Int) (w : World) (h : i_alfilref08_Passed.f k a0_0 a0_1 a0_2 a0_3 = some r1) :
    Calls Try.prog 84 #[.agg (pv a0_0 a0_1 a0_2 a0_3)] w fun e w' => e = .returned (.int .i64 r1) ∧ Below w.heap.size w w' := by
 have LN_a0_0 := hid hla0_0
 clear hla0_0
 have HL := hid (Below.refl w.heap.size w)
 have H : (if a0_3 < 0 then (some (-1)) else (if a0_3 > 63 then (some (-1)) else (if a0_1 = 0 then ((i_alfilref01_Rank.f k a0_3).bind fun t2 => (if t2 = 5 then (if 0 ≤ a0_3 then (if a0_3 < 64 then (if (nt a0_0 a0_3.toNat 0) = 0 then (if 0 ≤ (wrap64 (a0_3 + 8)) then (if (wrap64 (a0_3 + 8)) < 64 then (if (nt a0_0 ((wrap64 (a0_3 + 8)).toNat) 0) = 0 then (if 0 ≤ (wrap64 (a0_3 - 8)) then (if (wrap64 (a0_3 - 8)) < 64 then (if (nt a0_0 ((wrap64 (a0_3 - 8)).toNat) 0) = (-1) then (some (wrap64 (a0_3 - 8))) else (if a0_1 = 1 then ((i_alfilref01_Rank.f k a0_3).bind fun t3 => (if t3 = 2 then (if (nt a0_0 ((wrap64 (a0_3 - 8)).toNat) 0) = 0 then (if (nt a0_0 ((wrap64 (a0_3 + 8)).toNat) 0) = 1 then (some (wrap64 (a0_3 + 8))) else (some (-1))) else (some (-1))) else (some (-1)))) else (some (-1)))) else (none)) else (none)) else (if a0_1 = 1 then ((i_alfilref01_Rank.f k a0_3).bind fun t4 => (if t4 = 2 then (if 0 ≤ (wrap64 (a0_3 - 8)) then (if (wrap64 (a0_3 - 8)) < 64 then (if (nt a0_0 ((wrap64 (a0_3 - 8)).toNat) 0) = 0 then (if (nt a0_0 ((wrap64 (a0_3 + 8)).toNat) 0) = 1 then (some (wrap64 (a0_3 + 8))) else (some (-1))) else (some (-1))) else (none)) else (none)) else (some (-1)))) else (some (-1)))) else (none)) else (none)) else (if a0_1 = 1 then ((i_alfilref01_Rank.f k a0_3).bind fun t5 => (if t5 = 2 then (some (-1)) else (some (-1)))) else (some (-1)))) else (none)) else (none)) else (if a0_1 = 1 then ((i_alfilref01_Rank.f k a0_3).bind fun t6 => (if t6 = 2 then (if 0 ≤ a0_3 then (if a0_3 < 64 then (if (nt a0_0 a0_3.toNat 0) = 0 then (if 0 ≤ (wrap64 (a0_3 - 8)) then (if (wrap64 (a0_3 - 8)) < 64 then (if (nt a0_0 ((wrap64 (a0_3 - 8)).toNat) 0) = 0 then (if 0 ≤ (wrap64 (a0_3 + 8)) then (if (wrap64 (a0_3 + 8)) < 64 then (if (nt a0_0 ((wrap64 (a0_3 + 8)).toNat) 0) = 1 then (some (wrap64 (a0_3 + 8))) else (some (-1))) else (none)) else (none)) else (some (-1))) else (none)) else (none)) else (some (-1))) else (none)) else (none)) else (some (-1)))) else (some (-1))))) else (if a0_1 = 1 then ((i_alfilref01_Rank.f k a0_3).bind fun t7 => (if t7 = 2 then (if 0 ≤ a0_3 then (if a0_3 < 64 then (if (nt a0_0 a0_3.toNat 0) = 0 then (if 0 ≤ (wrap64 (a0_3 - 8)) then (if (wrap64 (a0_3 - 8)) < 64 then (if (nt a0_0 ((wrap64 (a0_3 - 8)).toNat) 0) = 0 then (if 0 ≤ (wrap64 (a0_3 + 8)) then (if (wrap64 (a0_3 + 8)) < 64 then (if (nt a0_0 ((wrap64 (a0_3 + 8)).toNat) 0) = 1 then (some (wrap64 (a0_3 + 8))) else (some (-1))) else (none)) else (none)) else (some (-1))) else (none)) else (none)) else (some (-1))) else (none)) else (none)) else (some (-1)))) else (some (-1)))))) = some r1 := h
 clear h
 by_cases c8 : a0_3 < 0
 ·
  rw [if_pos c8] at H
  have c8b0 : decide (a0_3 < 0) = true := decide_eq_true c8
  have hc8 := hid c8
  clear c8
  obtain rfl := Option.some.inj H
  clear H
  go_enter Try.func84, Try.ntmps84
  go_wp2_with (first
   | ((with_reducible refine gate_d (N := 1) rfl ?_); obtain ⟨gb1, hgb1⟩ : ∃ g_, w.heap.size = g_ := ⟨_, rfl⟩; refine ag_box (pv a0_0 a0_1 a0_2 a0_3) gb1 hgb1 rfl _ rfl rfl ?_; intro w9 hb_ hB_ hs_; have GEb1 : Hid (w.heap.size ≤ gb1) := hid (by have := HL.out.size; omega); replace HL := hid (HL.out.trans (hb_.mono GEb1.out)); have BKb1 := hid hB_; clear hb_ hB_ hs_ hgb1)
   | ((with_reducible refine gate_d (N := 3) rfl ?_); refine ag_fix (.pointer (some ⟨gb1, 66, none⟩)) (ex_field 46 3 (.pointer (some ⟨gb1, 0, none⟩)) (.pointer (some ⟨gb1, 66, none⟩)) (fa46_3_0 gb1) _ rfl rfl) rfl ?_)
   | ((with_reducible refine gate_d (N := 4) rfl ?_); refine ag_fix (.int .i64 a0_3) (ex_get sT3 gb1 (66) (.int .i64 a0_3) ((pv a0_0 a0_1 a0_2 a0_3)) BKb1.out ((xv_cell (n := 64) LN_a0_0.out 2 66 (by omega)).trans rfl) _ rfl rfl) rfl ?_))
  (try simp only [Act.put, sI, sZ, sS])
  go_ret
  exact ⟨by first | rfl | (simp; done) | (simp [*]; done), HL.out⟩
 ·
  rw [if_neg c8] at H
  have c8b0 : decide (a0_3 < 0) = false := decide_eq_false c8
  have hc8 := hid c8
  clear c8
  by_cases c10 : a0_3 > 63
  ·
   rw [if_pos c10] at H
   have c10b0 : decide (63 < a0_3) = true := decide_eq_true c10
   have hc10 := hid c10
   clear c10
   obtain rfl := Option.some.inj H
   clear H
   go_enter Try.func84, Try.ntmps84
   go_wp2_with (first
    | ((with_reducible refine gate_d (N := 1) rfl ?_); obtain ⟨gb1, hgb1⟩ : ∃ g_, w.heap.size = g_ := ⟨_, rfl⟩; refine ag_box (pv a0_0 a0_1 a0_2 a0_3) gb1 hgb1 rfl _ rfl rfl ?_; intro w11 hb_ hB_ hs_; have GEb1 : Hid (w.heap.size ≤ gb1) := hid (by have := HL.out.size; omega); replace HL := hid (HL.out.trans (hb_.mono GEb1.out)); have BKb1 := hid hB_; clear hb_ hB_ hs_ hgb1)
    | ((with_reducible refine gate_d (N := 3) rfl ?_); refine ag_fix (.pointer (some ⟨gb1, 66, none⟩)) (ex_field 46 3 (.pointer (some ⟨gb1, 0, none⟩)) (.pointer (some ⟨gb1, 66, none⟩)) (fa46_3_0 gb1) _ rfl rfl) rfl ?_)
    | ((with_reducible refine gate_d (N := 4) rfl ?_); refine ag_fix (.int .i64 a0_3) (ex_get sT3 gb1 (66) (.int .i64 a0_3) ((pv a0_0 a0_1 a0_2 a0_3)) BKb1.out ((xv_cell (n := 64) LN_a0_0.out 2 66 (by omega)).trans rfl) _ rfl rfl) rfl ?_)
    | ((with_reducible refine gate_d (N := 7) rfl ?_); refine ag_fix (.pointer (some ⟨gb1, 66, none⟩)) (ex_field 46 3 (.pointer (some ⟨gb1, 0, none⟩)) (.pointer (some ⟨gb1, 66, none⟩)) (fa46_3_0 gb1) _ rfl rfl) rfl ?_)
    | ((with_reducible refine gate_d (N := 8) rfl ?_); refine ag_fix (.int .i64 a0_3) (ex_get sT3 gb1 (66) (.int .i64 a0_3) ((pv a0_0 a0_1 a0_2 a0_3)) BKb1.out ((xv_cell (n := 64) LN_a0_0.out 2 66 (by omega)).trans rfl) _ rfl rfl) rfl ?_))
   (try simp only [Act.put, sI, sZ, sS])
   go_ret
   exact ⟨by first | rfl | (simp; done) | (simp [*]; done), HL.out⟩
  ·
   rw [if_neg c10] at H
   have c10b0 : decide (63 < a0_3) = false := decide_eq_false c10
   have hc10 := hid c10
   clear c10
   by_cases c12 : a0_1 = 0
   ·
    rw [if_pos c12] at H
    have c12b0 : (a0_1 == 0) = true := beq_iff_eq.mpr c12
    have c12b1 : (a0_1 != 0) = false := bne_eq_false_iff_eq.mpr c12
    have hc12 := hid c12
    clear c12
    replace H := Option.bind_eq_some_iff.mp H
    obtain ⟨t2, A13_, H⟩ := H
    have A13 := hid A13_
    clear A13_
    by_cases c14 : t2 = 5
    ·
     rw [if_pos c14] at H
     have c14b0 : (t2 == 5) = true := beq_iff_eq.mpr c14
     have c14b1 : (t2 != 5) = false := bne_eq_false_iff_eq.mpr c14
     have hc14 := hid c14
     clear c14
     by_cases c15 : 0 ≤ a0_3
     ·
      rw [if_pos c15] at H
      have c15b0 : decide (0 ≤ a0_3) = true := decide_eq_true c15
      have hc15 := hid c15
      clear c15
      by_cases c16 : a0_3 < 64
      ·
       rw [if_pos c16] at H
       have c16b0 : decide (a0_3 < 64) = true := decide_eq_true c16
       have hc16 := hid c16
       clear c16
       by_cases c17 : (nt a0_0 a0_3.toNat 0) = 0
       ·
        rw [if_pos c17] at H
        have c17b0 : ((nt a0_0 a0_3.toNat 0) == 0) = true := beq_iff_eq.mpr c17
        have c17b1 : ((nt a0_0 a0_3.toNat 0) != 0) = false := bne_eq_false_iff_eq.mpr c17
        have hc17 := hid c17
        clear c17
        by_cases c18 : 0 ≤ (wrap64 (a0_3 + 8))
        ·
         rw [if_pos c18] at H
         have c18b0 : decide (0 ≤ (wrap64 (a0_3 + 8))) = true := decide_eq_true c18
         have hc18 := hid c18
         clear c18
         by_cases c19 : (wrap64 (a0_3 + 8)) < 64
         ·
          rw [if_pos c19] at H
          have c19b0 : decide ((wrap64 (a0_3 + 8)) < 64) = true := decide_eq_true c19
          have hc19 := hid c19
          clear c19
          by_cases c20 : (nt a0_0 ((wrap64 (a0_3 + 8)).toNat) 0) = 0
          ·
           rw [if_pos c20] at H
           have c20b0 : ((nt a0_0 ((wrap64 (a0_3 + 8)).toNat) 0) == 0) = true := beq_iff_eq.mpr c20
           have c20b1 : ((nt a0_0 ((wrap64 (a0_3 + 8)).toNat) 0) != 0) = false := bne_eq_false_iff_eq.mpr c20
           have hc20 := hid c20
           clear c20
           by_cases c21 : 0 ≤ (wrap64 (a0_3 - 8))
           ·
            rw [if_pos c21] at H
            have c21b0 : decide (0 ≤ (wrap64 (a0_3 - 8))) = true := decide_eq_true c21
            have hc21 := hid c21
            clear c21
            by_cases c22 : (wrap64 (a0_3 - 8)) < 64
            ·
             rw [if_pos c22] at H
             have c22b0 : decide ((wrap64 (a0_3 - 8)) < 64) = true := decide_eq_true c22
             have hc22 := hid c22
             clear c22
             by_cases c23 : (nt a0_0 ((wrap64 (a0_3 - 8)).toNat) 0) = (-1)
             ·
              rw [if_pos c23] at H
              have c23b0 : ((nt a0_0 ((wrap64 (a0_3 - 8)).toNat) 0) == (-1)) = true := beq_iff_eq.mpr c23
              have c23b1 : ((nt a0_0 ((wrap64 (a0_3 - 8)).toNat) 0) != (-1)) = false := bne_eq_false_iff_eq.mpr c23
              have hc23 := hid c23
              clear c23
              obtain rfl := Option.some.inj H
              clear H
              go_enter Try.func84, Try.ntmps84
              have k25 := True.intro
              go_wp2_with (first
               | ((with_reducible refine gate_d (N := 1) rfl ?_); obtain ⟨gb1, hgb1⟩ : ∃ g_, w.heap.size = g_ := ⟨_, rfl⟩; refine ag_box (pv a0_0 a0_1 a0_2 a0_3) gb1 hgb1 rfl _ rfl rfl ?_; intro w24 hb_ hB_ hs_; have GEb1 : Hid (w.heap.size ≤ gb1) := hid (by have := HL.out.size; omega); replace HL := hid (HL.out.trans (hb_.mono GEb1.out)); have BKb1 := hid hB_; clear hb_ hB_ hs_ hgb1)
               | ((with_reducible refine gate_d (N := 3) rfl ?_); refine ag_fix (.pointer (some ⟨gb1, 66, none⟩)) (ex_field 46 3 (.pointer (some ⟨gb1, 0, none⟩)) (.pointer (some ⟨gb1, 66, none⟩)) (fa46_3_0 gb1) _ rfl rfl) rfl ?_)
               | ((with_reducible refine gate_d (N := 4) rfl ?_); refine ag_fix (.int .i64 a0_3) (ex_get sT3 gb1 (66) (.int .i64 a0_3) ((pv a0_0 a0_1 a0_2 a0_3)) BKb1.out ((xv_cell (n := 64) LN_a0_0.out 2 66 (by omega)).trans rfl) _ rfl rfl) rfl ?_)
               | ((with_reducible refine gate_d (N := 7) rfl ?_); refine ag_fix (.pointer (some ⟨gb1, 66, none⟩)) (ex_field 46 3 (.pointer (some ⟨gb1, 0, none⟩)) (.pointer (some ⟨gb1, 66, none⟩)) (fa46_3_0 gb1) _ rfl rfl) rfl ?_)
               | ((with_reducible refine gate_d (N := 8) rfl ?_); refine ag_fix (.int .i64 a0_3) (ex_get sT3 gb1 (66) (.int .i64 a0_3) ((pv a0_0 a0_1 a0_2 a0_3)) BKb1.out ((xv_cell (n := 64) LN_a0_0.out 2 66 (by omega)).trans rfl) _ rfl rfl) rfl ?_)
               | ((with_reducible refine gate_d (N := 11) rfl ?_); refine ag_fix (.pointer (some ⟨gb1, 64, none⟩)) (ex_field 46 1 (.pointer (some ⟨gb1, 0, none⟩)) (.pointer (some ⟨gb1, 64, none⟩)) (fa46_1_0 gb1) _ rfl rfl) rfl ?_)
               | ((with_reducible refine gate_d (N := 12) rfl ?_); refine ag_fix (.int .i64 a0_1) (ex_get sT3 gb1 (64) (.int .i64 a0_1) ((pv a0_0 a0_1 a0_2 a0_3)) BKb1.out ((xv_cell (n := 64) LN_a0_0.out 0 64 (by omega)).trans rfl) _ rfl rfl) rfl ?_)
               | ((with_reducible refine gate_d (N := 15) rfl ?_); refine ag_fix (.pointer (some ⟨gb1, 66, none⟩)) (ex_field 46 3 (.pointer (some ⟨gb1, 0, none⟩)) (.pointer (some ⟨gb1, 66, none⟩)) (fa46_3_0 gb1) _ rfl rfl) rfl ?_)
               | ((with_reducible refine gate_d (N := 16) rfl ?_); refine ag_fix (.int .i64 a0_3) (ex_get sT3 gb1 (66) (.int .i64 a0_3) ((pv a0_0 a0_1 a0_2 a0_3)) BKb1.out ((xv_cell (n := 64) LN_a0_0.out 2 66 (by omega)).trans rfl) _ rfl rfl) rfl ?_)
               | (go_at_call 77; clear k25; refine (i_alfilref01_Rank.calls k a0_3 t2 _ A13.out).mono ?_; rintro e_ w' ⟨rfl, rfl⟩)
               | ((with_reducible refine gate_d (N := 21) rfl ?_); refine ag_fix (.pointer (some ⟨gb1, 66, none⟩)) (ex_field 46 3 (.pointer (some ⟨gb1, 0, none⟩)) (.pointer (some ⟨gb1, 66, none⟩)) (fa46_3_0 gb1) _ rfl rfl) rfl ?_)
               | ((with_reducible refine gate_d (N := 22) rfl ?_); refine ag_fix (.int .i64 a0_3) (ex_get sT3 gb1 (66) (.int .i64 a0_3) ((pv a0_0 a0_1 a0_2 a0_3)) BKb1.out ((xv_cell (n := 64) LN_a0_0.out 2 66 (by omega)).trans rfl) _ rfl rfl) rfl ?_)
               | ((with_reducible refine gate_d (N := 23) rfl ?_); refine ag_fix (.pointer (some ⟨gb1, 0, none⟩)) (ex_field 46 0 (.pointer (some ⟨gb1, 0, none⟩)) (.pointer (some ⟨gb1, 0, none⟩)) (fa46_0_0 gb1) _ rfl rfl) rfl ?_)
               | ((with_reducible refine gate_d (N := 24) rfl ?_); refine ag_fix (.pointer (some ⟨gb1, a0_3.toNat, none⟩)) (ex_at 44 (.pointer (some ⟨gb1, 0, none⟩)) (.int .i64 a0_3) (.pointer (some ⟨gb1, a0_3.toNat, none⟩)) (fun w_ => (run_atv 42 uT44 sT42.size gb1 0 a0_3 hc15.out hc16.out w_).trans (by simp)) _ _ rfl rfl rfl) rfl ?_)
               | ((with_reducible refine gate_d (N := 25) rfl ?_); refine ag_fix (.int .i8 (nt a0_0 a0_3.toNat 0)) (ex_get sT42 gb1 (a0_3.toNat) (.int .i8 (nt a0_0 a0_3.toNat 0)) ((pv a0_0 a0_1 a0_2 a0_3)) BKb1.out (xv_elem 0 (by have h_ : a0_0.length = 64 := LN_a0_0.out; have h1_ := hc15.out; have h2_ := hc16.out; omega)) _ rfl rfl) rfl ?_)
               | ((with_reducible refine gate_d (N := 29) rfl ?_); refine ag_fix (.pointer (some ⟨gb1, 66, none⟩)) (ex_field 46 3 (.pointer (some ⟨gb1, 0, none⟩)) (.pointer (some ⟨gb1, 66, none⟩)) (fa46_3_0 gb1) _ rfl rfl) rfl ?_)
               | ((with_reducible refine gate_d (N := 30) rfl ?_); refine ag_fix (.int .i64 a0_3) (ex_get sT3 gb1 (66) (.int .i64 a0_3) ((pv a0_0 a0_1 a0_2 a0_3)) BKb1.out ((xv_cell (n := 64) LN_a0_0.out 2 66 (by omega)).trans rfl) _ rfl rfl) rfl ?_)
               | ((with_reducible refine gate_d (N := 32) rfl ?_); refine ag_fix (.pointer (some ⟨gb1, 0, none⟩)) (ex_field 46 0 (.pointer (some ⟨gb1, 0, none⟩)) (.pointer (some ⟨gb1, 0, none⟩)) (fa46_0_0 gb1) _ rfl rfl) rfl ?_)
               | ((with_reducible refine gate_d (N := 33) rfl ?_); refine ag_fix (.pointer (some ⟨gb1, (wrap64 (a0_3 + 8)).toNat, none⟩)) (ex_at 44 (.pointer (some ⟨gb1, 0, none⟩)) (.int .i64 (wrap64 (a0_3 + 8))) (.pointer (some ⟨gb1, (wrap64 (a0_3 + 8)).toNat, none⟩)) (fun w_ => (run_atv 42 uT44 sT42.size gb1 0 (wrap64 (a0_3 + 8)) hc18.out hc19.out w_).trans (by simp)) _ _ rfl rfl rfl) rfl ?_)
               | ((with_reducible refine gate_d (N := 34) rfl ?_); refine ag_fix (.int .i8 (nt a0_0 ((wrap64 (a0_3 + 8)).toNat) 0)) (ex_get sT42 gb1 ((wrap64 (a0_3 + 8)).toNat) (.int .i8 (nt a0_0 ((wrap64 (a0_3 + 8)).toNat) 0)) ((pv a0_0 a0_1 a0_2 a0_3)) BKb1.out (xv_elem 0 (by have h_ : a0_0.length = 64 := LN_a0_0.out; have h1_ := hc18.out; have h2_ := hc19.out; omega)) _ rfl rfl) rfl ?_)
               | ((with_reducible refine gate_d (N := 38) rfl ?_); refine ag_fix (.pointer (some ⟨gb1, 66, none⟩)) (ex_field 46 3 (.pointer (some ⟨gb1, 0, none⟩)) (.pointer (some ⟨gb1, 66, none⟩)) (fa46_3_0 gb1) _ rfl rfl) rfl ?_)
               | ((with_reducible refine gate_d (N := 39) rfl ?_); refine ag_fix (.int .i64 a0_3) (ex_get sT3 gb1 (66) (.int .i64 a0_3) ((pv a0_0 a0_1 a0_2 a0_3)) BKb1.out ((xv_cell (n := 64) LN_a0_0.out 2 66 (by omega)).trans rfl) _ rfl rfl) rfl ?_)
               | ((with_reducible refine gate_d (N := 41) rfl ?_); refine ag_fix (.pointer (some ⟨gb1, 0, none⟩)) (ex_field 46 0 (.pointer (some ⟨gb1, 0, none⟩)) (.pointer (some ⟨gb1, 0, none⟩)) (fa46_0_0 gb1) _ rfl rfl) rfl ?_)
               | ((with_reducible refine gate_d (N := 42) rfl ?_); refine ag_fix (.pointer (some ⟨gb1, (wrap64 (a0_3 - 8)).toNat, none⟩)) (ex_at 44 (.pointer (some ⟨gb1, 0, none⟩)) (.int .i64 (wrap64 (a0_3 - 8))) (.pointer (some ⟨gb1, (wrap64 (a0_3 - 8)).toNat, none⟩)) (fun w_ => (run_atv 42 uT44 sT42.size gb1 0 (wrap64 (a0_3 - 8)) hc21.out hc22.out w_).trans (by simp)) _ _ rfl rfl rfl) rfl ?_)
               | ((with_reducible refine gate_d (N := 43) rfl ?_); refine ag_fix (.int .i8 (nt a0_0 ((wrap64 (a0_3 - 8)).toNat) 0)) (ex_get sT42 gb1 ((wrap64 (a0_3 - 8)).toNat) (.int .i8 (nt a0_0 ((wrap64 (a0_3 - 8)).toNat) 0)) ((pv a0_0 a0_1 a0_2 a0_3)) BKb1.out (xv_elem 0 (by have h_ : a0_0.length = 64 := LN_a0_0.out; have h1_ := hc21.out; have h2_ := hc22.out; omega)) _ rfl rfl) rfl ?_)
               | ((with_reducible refine gate_d (N := 46) rfl ?_); refine ag_fix (.pointer (some ⟨gb1, 66, none⟩)) (ex_field 46 3 (.pointer (some ⟨gb1, 0, none⟩)) (.pointer (some ⟨gb1, 66, none⟩)) (fa46_3_0 gb1) _ rfl rfl) rfl ?_)
               | ((with_reducible refine gate_d (N := 47) rfl ?_); refine ag_fix (.int .i64 a0_3) (ex_get sT3 gb1 (66) (.int .i64 a0_3) ((pv a0_0 a0_1 a0_2 a0_3)) BKb1.out ((xv_cell (n := 64) LN_a0_0.out 2 66 (by omega)).trans rfl) _ rfl rfl) rfl ?_))
              (try simp only [Act.put, sI, sZ, sS])
              go_ret
              exact ⟨by first | rfl | (simp; done) | (simp [*]; done), HL.out⟩
             ·
              rw [if_neg c23] at H
              have c23b0 : ((nt a0_0 ((wrap64 (a0_3 - 8)).toNat) 0) == (-1)) = false := beq_eq_false_iff_ne.mpr c23
              have c23b1 : ((nt a0_0 ((wrap64 (a0_3 - 8)).toNat) 0) != (-1)) = true := bne_iff_ne.mpr c23
              have hc23 := hid c23
              clear c23
              by_cases c26 : a0_1 = 1
              ·
               rw [if_pos c26] at H
               exfalso
               clear H
               have := hc12.out; omega
              ·
               rw [if_neg c26] at H
               have c26b0 : (a0_1 == 1) = false := beq_eq_false_iff_ne.mpr c26
               have c26b1 : (a0_1 != 1) = true := bne_iff_ne.mpr c26
               have hc26 := hid c26
               clear c26
               obtain rfl := Option.some.inj H
               clear H
               go_enter Try.func84, Try.ntmps84
               have k28 := True.intro
               go_wp2_with (first
                | ((with_reducible refine gate_d (N := 1) rfl ?_); obtain ⟨gb1, hgb1⟩ : ∃ g_, w.heap.size = g_ := ⟨_, rfl⟩; refine ag_box (pv a0_0 a0_1 a0_2 a0_3) gb1 hgb1 rfl _ rfl rfl ?_; intro w27 hb_ hB_ hs_; have GEb1 : Hid (w.heap.size ≤ gb1) := hid (by have := HL.out.size; omega); replace HL := hid (HL.out.trans (hb_.mono GEb1.out)); have BKb1 := hid hB_; clear hb_ hB_ hs_ hgb1)
                | ((with_reducible refine gate_d (N := 3) rfl ?_); refine ag_fix (.pointer (some ⟨gb1, 66, none⟩)) (ex_field 46 3 (.pointer (some ⟨gb1, 0, none⟩)) (.pointer (some ⟨gb1, 66, none⟩)) (fa46_3_0 gb1) _ rfl rfl) rfl ?_)
                | ((with_reducible refine gate_d (N := 4) rfl ?_); refine ag_fix (.int .i64 a0_3) (ex_get sT3 gb1 (66) (.int .i64 a0_3) ((pv a0_0 a0_1 a0_2 a0_3)) BKb1.out ((xv_cell (n := 64) LN_a0_0.out 2 66 (by omega)).trans rfl) _ rfl rfl) rfl ?_)
                | ((with_reducible refine gate_d (N := 7) rfl ?_); refine ag_fix (.pointer (some ⟨gb1, 66, none⟩)) (ex_field 46 3 (.pointer (some ⟨gb1, 0, none⟩)) (.pointer (some ⟨gb1, 66, none⟩)) (fa46_3_0 gb1) _ rfl rfl) rfl ?_)
                | ((with_reducible refine gate_d (N := 8) rfl ?_); refine ag_fix (.int .i64 a0_3) (ex_get sT3 gb1 (66) (.int .i64 a0_3) ((pv a0_0 a0_1 a0_2 a0_3)) BKb1.out ((xv_cell (n := 64) LN_a0_0.out 2 66 (by omega)).trans rfl) _ rfl rfl) rfl ?_)
                | ((with_reducible refine gate_d (N := 11) rfl ?_); refine ag_fix (.pointer (some ⟨gb1, 64, none⟩)) (ex_field 46 1 (.pointer (some ⟨gb1, 0, none⟩)) (.pointer (some ⟨gb1, 64, none⟩)) (fa46_1_0 gb1) _ rfl rfl) rfl ?_)
                | ((with_reducible refine gate_d (N := 12) rfl ?_); refine ag_fix (.int .i64 a0_1) (ex_get sT3 gb1 (64) (.int .i64 a0_1) ((pv a0_0 a0_1 a0_2 a0_3)) BKb1.out ((xv_cell (n := 64) LN_a0_0.out 0 64 (by omega)).trans rfl) _ rfl rfl) rfl ?_)
                | ((with_reducible refine gate_d (N := 15) rfl ?_); refine ag_fix (.pointer (some ⟨gb1, 66, none⟩)) (ex_field 46 3 (.pointer (some ⟨gb1, 0, none⟩)) (.pointer (some ⟨gb1, 66, none⟩)) (fa46_3_0 gb1) _ rfl rfl) rfl ?_)
                | ((with_reducible refine gate_d (N := 16) rfl ?_); refine ag_fix (.int .i64 a0_3) (ex_get sT3 gb1 (66) (.int .i64 a0_3) ((pv a0_0 a0_1 a0_2 a0_3)) BKb1.out ((xv_cell (n := 64) LN_a0_0.out 2 66 (by omega)).trans rfl) _ rfl rfl) rfl ?_)
                | (go_at_call 77; clear k28; refine (i_alfilref01_Rank.calls k a0_3 t2 _ A13.out).mono ?_; rintro e_ w' ⟨rfl, rfl⟩)
                | ((with_reducible refine gate_d (N := 21) rfl ?_); refine ag_fix (.pointer (some ⟨gb1, 66, none⟩)) (ex_field 46 3 (.pointer (some ⟨gb1, 0, none⟩)) (.pointer (some ⟨gb1, 66, none⟩)) (fa46_3_0 gb1) _ rfl rfl) rfl ?_)
                | ((with_reducible refine gate_d (N := 22) rfl ?_); refine ag_fix (.int .i64 a0_3) (ex_get sT3 gb1 (66) (.int .i64 a0_3) ((pv a0_0 a0_1 a0_2 a0_3)) BKb1.out ((xv_cell (n := 64) LN_a0_0.out 2 66 (by omega)).trans rfl) _ rfl rfl) rfl ?_)
                | ((with_reducible refine gate_d (N := 23) rfl ?_); refine ag_fix (.pointer (some ⟨gb1, 0, none⟩)) (ex_field 46 0 (.pointer (some ⟨gb1, 0, none⟩)) (.pointer (some ⟨gb1, 0, none⟩)) (fa46_0_0 gb1) _ rfl rfl) rfl ?_)
                | ((with_reducible refine gate_d (N := 24) rfl ?_); refine ag_fix (.pointer (some ⟨gb1, a0_3.toNat, none⟩)) (ex_at 44 (.pointer (some ⟨gb1, 0, none⟩)) (.int .i64 a0_3) (.pointer (some ⟨gb1, a0_3.toNat, none⟩)) (fun w_ => (run_atv 42 uT44 sT42.size gb1 0 a0_3 hc15.out hc16.out w_).trans (by simp)) _ _ rfl rfl rfl) rfl ?_)
                | ((with_reducible refine gate_d (N := 25) rfl ?_); refine ag_fix (.int .i8 (nt a0_0 a0_3.toNat 0)) (ex_get sT42 gb1 (a0_3.toNat) (.int .i8 (nt a0_0 a0_3.toNat 0)) ((pv a0_0 a0_1 a0_2 a0_3)) BKb1.out (xv_elem 0 (by have h_ : a0_0.length = 64 := LN_a0_0.out; have h1_ := hc15.out; have h2_ := hc16.out; omega)) _ rfl rfl) rfl ?_)
                | ((with_reducible refine gate_d (N := 29) rfl ?_); refine ag_fix (.pointer (some ⟨gb1, 66, none⟩)) (ex_field 46 3 (.pointer (some ⟨gb1, 0, none⟩)) (.pointer (some ⟨gb1, 66, none⟩)) (fa46_3_0 gb1) _ rfl rfl) rfl ?_)
                | ((with_reducible refine gate_d (N := 30) rfl ?_); refine ag_fix (.int .i64 a0_3) (ex_get sT3 gb1 (66) (.int .i64 a0_3) ((pv a0_0 a0_1 a0_2 a0_3)) BKb1.out ((xv_cell (n := 64) LN_a0_0.out 2 66 (by omega)).trans rfl) _ rfl rfl) rfl ?_)
                | ((with_reducible refine gate_d (N := 32) rfl ?_); refine ag_fix (.pointer (some ⟨gb1, 0, none⟩)) (ex_field 46 0 (.pointer (some ⟨gb1, 0, none⟩)) (.pointer (some ⟨gb1, 0, none⟩)) (fa46_0_0 gb1) _ rfl rfl) rfl ?_)
                | ((with_reducible refine gate_d (N := 33) rfl ?_); refine ag_fix (.pointer (some ⟨gb1, (wrap64 (a0_3 + 8)).toNat, none⟩)) (ex_at 44 (.pointer (some ⟨gb1, 0, none⟩)) (.int .i64 (wrap64 (a0_3 + 8))) (.pointer (some ⟨gb1, (wrap64 (a0_3 + 8)).toNat, none⟩)) (fun w_ => (run_atv 42 uT44 sT42.size gb1 0 (wrap64 (a0_3 + 8)) hc18.out hc19.out w_).trans (by simp)) _ _ rfl rfl rfl) rfl ?_)
                | ((with_reducible refine gate_d (N := 34) rfl ?_); refine ag_fix (.int .i8 (nt a0_0 ((wrap64 (a0_3 + 8)).toNat) 0)) (ex_get sT42 gb1 ((wrap64 (a0_3 + 8)).toNat) (.int .i8 (nt a0_0 ((wrap64 (a0_3 + 8)).toNat) 0)) ((pv a0_0 a0_1 a0_2 a0_3)) BKb1.out (xv_elem 0 (by have h_ : a0_0.length = 64 := LN_a0_0.out; have h1_ := hc18.out; have h2_ := hc19.out; omega)) _ rfl rfl) rfl ?_)
                | ((with_reducible refine gate_d (N := 38) rfl ?_); refine ag_fix (.pointer (some ⟨gb1, 66, none⟩)) (ex_field 46 3 (.pointer (some ⟨gb1, 0, none⟩)) (.pointer (some ⟨gb1, 66, none⟩)) (fa46_3_0 gb1) _ rfl rfl) rfl ?_)
                | ((with_reducible refine gate_d (N := 39) rfl ?_); refine ag_fix (.int .i64 a0_3) (ex_get sT3 gb1 (66) (.int .i64 a0_3) ((pv a0_0 a0_1 a0_2 a0_3)) BKb1.out ((xv_cell (n := 64) LN_a0_0.out 2 66 (by omega)).trans rfl) _ rfl rfl) rfl ?_)
                | ((with_reducible refine gate_d (N := 41) rfl ?_); refine ag_fix (.pointer (some ⟨gb1, 0, none⟩)) (ex_field 46 0 (.pointer (some ⟨gb1, 0, none⟩)) (.pointer (some ⟨gb1, 0, none⟩)) (fa46_0_0 gb1) _ rfl rfl) rfl ?_)
                | ((with_reducible refine gate_d (N := 42) rfl ?_); refine ag_fix (.pointer (some ⟨gb1, (wrap64 (a0_3 - 8)).toNat, none⟩)) (ex_at 44 (.pointer (some ⟨gb1, 0, none⟩)) (.int .i64 (wrap64 (a0_3 - 8))) (.pointer (some ⟨gb1, (wrap64 (a0_3 - 8)).toNat, none⟩)) (fun w_ => (run_atv 42 uT44 sT42.size gb1 0 (wrap64 (a0_3 - 8)) hc21.out hc22.out w_).trans (by simp)) _ _ rfl rfl rfl) rfl ?_)
                | ((with_reducible refine gate_d (N := 43) rfl ?_); refine ag_fix (.int .i8 (nt a0_0 ((wrap64 (a0_3 - 8)).toNat) 0)) (ex_get sT42 gb1 ((wrap64 (a0_3 - 8)).toNat) (.int .i8 (nt a0_0 ((wrap64 (a0_3 - 8)).toNat) 0)) ((pv a0_0 a0_1 a0_2 a0_3)) BKb1.out (xv_elem 0 (by have h_ : a0_0.length = 64 := LN_a0_0.out; have h1_ := hc21.out; have h2_ := hc22.out; omega)) _ rfl rfl) rfl ?_)
                | ((with_reducible refine gate_d (N := 49) rfl ?_); refine ag_fix (.pointer (some ⟨gb1, 64, none⟩)) (ex_field 46 1 (.pointer (some ⟨gb1, 0, none⟩)) (.pointer (some ⟨gb1, 64, none⟩)) (fa46_1_0 gb1) _ rfl rfl) rfl ?_)
                | ((with_reducible refine gate_d (N := 50) rfl ?_); refine ag_fix (.int .i64 a0_1) (ex_get sT3 gb1 (64) (.int .i64 a0_1) ((pv a0_0 a0_1 a0_2 a0_3)) BKb1.out ((xv_cell (n := 64) LN_a0_0.out 0 64 (by omega)).trans rfl) _ rfl rfl) rfl ?_))
               (try simp only [Act.put, sI, sZ, sS])
               go_ret
               exact ⟨by first | rfl | (simp; done) | (simp [*]; done), HL.out⟩
            ·
             rw [if_neg c22] at H
             exact absurd H (by simp)
           ·
            rw [if_neg c21] at H
            exact absurd H (by simp)
          ·
           rw [if_neg c20] at H
           have c20b0 : ((nt a0_0 ((wrap64 (a0_3 + 8)).toNat) 0) == 0) = false := beq_eq_false_iff_ne.mpr c20
           have c20b1 : ((nt a0_0 ((wrap64 (a0_3 + 8)).toNat) 0) != 0) = true := bne_iff_ne.mpr c20
           have hc20 := hid c20
           clear c20
           by_cases c29 : a0_1 = 1
           ·
            rw [if_pos c29] at H
            exfalso
            clear H
            have := hc12.out; omega
           ·
            rw [if_neg c29] at H
            have c29b0 : (a0_1 == 1) = false := beq_eq_false_iff_ne.mpr c29
            have c29b1 : (a0_1 != 1) = true := bne_iff_ne.mpr c29
            have hc29 := hid c29
            clear c29
            obtain rfl := Option.some.inj H
            clear H
            go_enter Try.func84, Try.ntmps84
            have k31 := True.intro
            go_wp2_with (first
             | ((with_reducible refine gate_d (N := 1) rfl ?_); obtain ⟨gb1, hgb1⟩ : ∃ g_, w.heap.size = g_ := ⟨_, rfl⟩; refine ag_box (pv a0_0 a0_1 a0_2 a0_3) gb1 hgb1 rfl _ rfl rfl ?_; intro w30 hb_ hB_ hs_; have GEb1 : Hid (w.heap.size ≤ gb1) := hid (by have := HL.out.size; omega); replace HL := hid (HL.out.trans (hb_.mono GEb1.out)); have BKb1 := hid hB_; clear hb_ hB_ hs_ hgb1)
             | ((with_reducible refine gate_d (N := 3) rfl ?_); refine ag_fix (.pointer (some ⟨gb1, 66, none⟩)) (ex_field 46 3 (.pointer (some ⟨gb1, 0, none⟩)) (.pointer (some ⟨gb1, 66, none⟩)) (fa46_3_0 gb1) _ rfl rfl) rfl ?_)
             | ((with_reducible refine gate_d (N := 4) rfl ?_); refine ag_fix (.int .i64 a0_3) (ex_get sT3 gb1 (66) (.int .i64 a0_3) ((pv a0_0 a0_1 a0_2 a0_3)) BKb1.out ((xv_cell (n := 64) LN_a0_0.out 2 66 (by omega)).trans rfl) _ rfl rfl) rfl ?_)
             | ((with_reducible refine gate_d (N := 7) rfl ?_); refine ag_fix (.pointer (some ⟨gb1, 66, none⟩)) (ex_field 46 3 (.pointer (some ⟨gb1, 0, none⟩)) (.pointer (some ⟨gb1, 66, none⟩)) (fa46_3_0 gb1) _ rfl rfl) rfl ?_)
             | ((with_reducible refine gate_d (N := 8) rfl ?_); refine ag_fix (.int .i64 a0_3) (ex_get sT3 gb1 (66) (.int .i64 a0_3) ((pv a0_0 a0_1 a0_2 a0_3)) BKb1.out ((xv_cell (n := 64) LN_a0_0.out 2 66 (by omega)).trans rfl) _ rfl rfl) rfl ?_)
             | ((with_reducible refine gate_d (N := 11) rfl ?_); refine ag_fix (.pointer (some ⟨gb1, 64, none⟩)) (ex_field 46 1 (.pointer (some ⟨gb1, 0, none⟩)) (.pointer (some ⟨gb1, 64, none⟩)) (fa46_1_0 gb1) _ rfl rfl) rfl ?_)
             | ((with_reducible refine gate_d (N := 12) rfl ?_); refine ag_fix (.int .i64 a0_1) (ex_get sT3 gb1 (64) (.int .i64 a0_1) ((pv a0_0 a0_1 a0_2 a0_3)) BKb1.out ((xv_cell (n := 64) LN_a0_0.out 0 64 (by omega)).trans rfl) _ rfl rfl) rfl ?_)
             | ((with_reducible refine gate_d (N := 15) rfl ?_); refine ag_fix (.pointer (some ⟨gb1, 66, none⟩)) (ex_field 46 3 (.pointer (some ⟨gb1, 0, none⟩)) (.pointer (some ⟨gb1, 66, none⟩)) (fa46_3_0 gb1) _ rfl rfl) rfl ?_)
             | ((with_reducible refine gate_d (N := 16) rfl ?_); refine ag_fix (.int .i64 a0_3) (ex_get sT3 gb1 (66) (.int .i64 a0_3) ((pv a0_0 a0_1 a0_2 a0_3)) BKb1.out ((xv_cell (n := 64) LN_a0_0.out 2 66 (by omega)).trans rfl) _ rfl rfl) rfl ?_)
             | (go_at_call 77; clear k31; refine (i_alfilref01_Rank.calls k a0_3 t2 _ A13.out).mono ?_; rintro e_ w' ⟨rfl, rfl⟩)
             | ((with_reducible refine gate_d (N := 21) rfl ?_); refine ag_fix (.pointer (some ⟨gb1, 66, none⟩)) (ex_field 46 3 (.pointer (some ⟨gb1, 0, none⟩)) (.pointer (some ⟨gb1, 66, none⟩)) (fa46_3_0 gb1) _ rfl rfl) rfl ?_)
             | ((with_reducible refine gate_d (N := 22) rfl ?_); refine ag_fix (.int .i64 a0_3) (ex_get sT3 gb1 (66) (.int .i64 a0_3) ((pv a0_0 a0_1 a0_2 a0_3)) BKb1.out ((xv_cell (n := 64) LN_a0_0.out 2 66 (by omega)).trans rfl) _ rfl rfl) rfl ?_)
             | ((with_reducible refine gate_d (N := 23) rfl ?_); refine ag_fix (.pointer (some ⟨gb1, 0, none⟩)) (ex_field 46 0 (.pointer (some ⟨gb1, 0, none⟩)) (.pointer (some ⟨gb1, 0, none⟩)) (fa46_0_0 gb1) _ rfl rfl) rfl ?_)
             | ((with_reducible refine gate_d (N := 24) rfl ?_); refine ag_fix (.pointer (some ⟨gb1, a0_3.toNat, none⟩)) (ex_at 44 (.pointer (some ⟨gb1, 0, none⟩)) (.int .i64 a0_3) (.pointer (some ⟨gb1, a0_3.toNat, none⟩)) (fun w_ => (run_atv 42 uT44 sT42.size gb1 0 a0_3 hc15.out hc16.out w_).trans (by simp)) _ _ rfl rfl rfl) rfl ?_)
             | ((with_reducible refine gate_d (N := 25) rfl ?_); refine ag_fix (.int .i8 (nt a0_0 a0_3.toNat 0)) (ex_get sT42 gb1 (a0_3.toNat) (.int .i8 (nt a0_0 a0_3.toNat 0)) ((pv a0_0 a0_1 a0_2 a0_3)) BKb1.out (xv_elem 0 (by have h_ : a0_0.length = 64 := LN_a0_0.out; have h1_ := hc15.out; have h2_ := hc16.out; omega)) _ rfl rfl) rfl ?_)
             | ((with_reducible refine gate_d (N := 29) rfl ?_); refine ag_fix (.pointer (some ⟨gb1, 66, none⟩)) (ex_field 46 3 (.pointer (some ⟨gb1, 0, none⟩)) (.pointer (some ⟨gb1, 66, none⟩)) (fa46_3_0 gb1) _ rfl rfl) rfl ?_)
             | ((with_reducible refine gate_d (N := 30) rfl ?_); refine ag_fix (.int .i64 a0_3) (ex_get sT3 gb1 (66) (.int .i64 a0_3) ((pv a0_0 a0_1 a0_2 a0_3)) BKb1.out ((xv_cell (n := 64) LN_a0_0.out 2 66 (by omega)).trans rfl) _ rfl rfl) rfl ?_)
             | ((with_reducible refine gate_d (N := 32) rfl ?_); refine ag_fix (.pointer (some ⟨gb1, 0, none⟩)) (ex_field 46 0 (.pointer (some ⟨gb1, 0, none⟩)) (.pointer (some ⟨gb1, 0, none⟩)) (fa46_0_0 gb1) _ rfl rfl) rfl ?_)
             | ((with_reducible refine gate_d (N := 33) rfl ?_); refine ag_fix (.pointer (some ⟨gb1, (wrap64 (a0_3 + 8)).toNat, none⟩)) (ex_at 44 (.pointer (some ⟨gb1, 0, none⟩)) (.int .i64 (wrap64 (a0_3 + 8))) (.pointer (some ⟨gb1, (wrap64 (a0_3 + 8)).toNat, none⟩)) (fun w_ => (run_atv 42 uT44 sT42.size gb1 0 (wrap64 (a0_3 + 8)) hc18.out hc19.out w_).trans (by simp)) _ _ rfl rfl rfl) rfl ?_)
             | ((with_reducible refine gate_d (N := 34) rfl ?_); refine ag_fix (.int .i8 (nt a0_0 ((wrap64 (a0_3 + 8)).toNat) 0)) (ex_get sT42 gb1 ((wrap64 (a0_3 + 8)).toNat) (.int .i8 (nt a0_0 ((wrap64 (a0_3 + 8)).toNat) 0)) ((pv a0_0 a0_1 a0_2 a0_3)) BKb1.out (xv_elem 0 (by have h_ : a0_0.length = 64 := LN_a0_0.out; have h1_ := hc18.out; have h2_ := hc19.out; omega)) _ rfl rfl) rfl ?_)
             | ((with_reducible refine gate_d (N := 49) rfl ?_); refine ag_fix (.pointer (some ⟨gb1, 64, none⟩)) (ex_field 46 1 (.pointer (some ⟨gb1, 0, none⟩)) (.pointer (some ⟨gb1, 64, none⟩)) (fa46_1_0 gb1) _ rfl rfl) rfl ?_)
             | ((with_reducible refine gate_d (N := 50) rfl ?_); refine ag_fix (.int .i64 a0_1) (ex_get sT3 gb1 (64) (.int .i64 a0_1) ((pv a0_0 a0_1 a0_2 a0_3)) BKb1.out ((xv_cell (n := 64) LN_a0_0.out 0 64 (by omega)).trans rfl) _ rfl rfl) rfl ?_))
            (try simp only [Act.put, sI, sZ, sS])
            go_ret
            exact ⟨by first | rfl | (simp; done) | (simp [*]; done), HL.out⟩
         ·
          rw [if_neg c19] at H
          exact absurd H (by simp)
        ·
         rw [if_neg c18] at H
         exact absurd H (by simp)
       ·
        rw [if_neg c17] at H
        have c17b0 : ((nt a0_0 a0_3.toNat 0) == 0) = false := beq_eq_false_iff_ne.mpr c17
        have c17b1 : ((nt a0_0 a0_3.toNat 0) != 0) = true := bne_iff_ne.mpr c17
        have hc17 := hid c17
        clear c17
        by_cases c32 : a0_1 = 1
        ·
         rw [if_pos c32] at H
         exfalso
         clear H
         have := hc12.out; omega
        ·
         rw [if_neg c32] at H
         have c32b0 : (a0_1 == 1) = false := beq_eq_false_iff_ne.mpr c32
         have c32b1 : (a0_1 != 1) = true := bne_iff_ne.mpr c32
         have hc32 := hid c32
         clear c32
         obtain rfl := Option.some.inj H
         clear H
         go_enter Try.func84, Try.ntmps84
         have k34 := True.intro
         go_wp2_with (first
          | ((with_reducible refine gate_d (N := 1) rfl ?_); obtain ⟨gb1, hgb1⟩ : ∃ g_, w.heap.size = g_ := ⟨_, rfl⟩; refine ag_box (pv a0_0 a0_1 a0_2 a0_3) gb1 hgb1 rfl _ rfl rfl ?_; intro w33 hb_ hB_ hs_; have GEb1 : Hid (w.heap.size ≤ gb1) := hid (by have := HL.out.size; omega); replace HL := hid (HL.out.trans (hb_.mono GEb1.out)); have BKb1 := hid hB_; clear hb_ hB_ hs_ hgb1)
          | ((with_reducible refine gate_d (N := 3) rfl ?_); refine ag_fix (.pointer (some ⟨gb1, 66, none⟩)) (ex_field 46 3 (.pointer (some ⟨gb1, 0, none⟩)) (.pointer (some ⟨gb1, 66, none⟩)) (fa46_3_0 gb1) _ rfl rfl) rfl ?_)
          | ((with_reducible refine gate_d (N := 4) rfl ?_); refine ag_fix (.int .i64 a0_3) (ex_get sT3 gb1 (66) (.int .i64 a0_3) ((pv a0_0 a0_1 a0_2 a0_3)) BKb1.out ((xv_cell (n := 64) LN_a0_0.out 2 66 (by omega)).trans rfl) _ rfl rfl) rfl ?_)
          | ((with_reducible refine gate_d (N := 7) rfl ?_); refine ag_fix (.pointer (some ⟨gb1, 66, none⟩)) (ex_field 46 3 (.pointer (some ⟨gb1, 0, none⟩)) (.pointer (some ⟨gb1, 66, none⟩)) (fa46_3_0 gb1) _ rfl rfl) rfl ?_)
          | ((with_reducible refine gate_d (N := 8) rfl ?_); refine ag_fix (.int .i64 a0_3) (ex_get sT3 gb1 (66) (.int .i64 a0_3) ((pv a0_0 a0_1 a0_2 a0_3)) BKb1.out ((xv_cell (n := 64) LN_a0_0.out 2 66 (by omega)).trans rfl) _ rfl rfl) rfl ?_)
          | ((with_reducible refine gate_d (N := 11) rfl ?_); refine ag_fix (.pointer (some ⟨gb1, 64, none⟩)) (ex_field 46 1 (.pointer (some ⟨gb1, 0, none⟩)) (.pointer (some ⟨gb1, 64, none⟩)) (fa46_1_0 gb1) _ rfl rfl) rfl ?_)
          | ((with_reducible refine gate_d (N := 12) rfl ?_); refine ag_fix (.int .i64 a0_1) (ex_get sT3 gb1 (64) (.int .i64 a0_1) ((pv a0_0 a0_1 a0_2 a0_3)) BKb1.out ((xv_cell (n := 64) LN_a0_0.out 0 64 (by omega)).trans rfl) _ rfl rfl) rfl ?_)
          | ((with_reducible refine gate_d (N := 15) rfl ?_); refine ag_fix (.pointer (some ⟨gb1, 66, none⟩)) (ex_field 46 3 (.pointer (some ⟨gb1, 0, none⟩)) (.pointer (some ⟨gb1, 66, none⟩)) (fa46_3_0 gb1) _ rfl rfl) rfl ?_)
          | ((with_reducible refine gate_d (N := 16) rfl ?_); refine ag_fix (.int .i64 a0_3) (ex_get sT3 gb1 (66) (.int .i64 a0_3) ((pv a0_0 a0_1 a0_2 a0_3)) BKb1.out ((xv_cell (n := 64) LN_a0_0.out 2 66 (by omega)).trans rfl) _ rfl rfl) rfl ?_)
          | (go_at_call 77; clear k34; refine (i_alfilref01_Rank.calls k a0_3 t2 _ A13.out).mono ?_; rintro e_ w' ⟨rfl, rfl⟩)
          | ((with_reducible refine gate_d (N := 21) rfl ?_); refine ag_fix (.pointer (some ⟨gb1, 66, none⟩)) (ex_field 46 3 (.pointer (some ⟨gb1, 0, none⟩)) (.pointer (some ⟨gb1, 66, none⟩)) (fa46_3_0 gb1) _ rfl rfl) rfl ?_)
          | ((with_reducible refine gate_d (N := 22) rfl ?_); refine ag_fix (.int .i64 a0_3) (ex_get sT3 gb1 (66) (.int .i64 a0_3) ((pv a0_0 a0_1 a0_2 a0_3)) BKb1.out ((xv_cell (n := 64) LN_a0_0.out 2 66 (by omega)).trans rfl) _ rfl rfl) rfl ?_)
          | ((with_reducible refine gate_d (N := 23) rfl ?_); refine ag_fix (.pointer (some ⟨gb1, 0, none⟩)) (ex_field 46 0 (.pointer (some ⟨gb1, 0, none⟩)) (.pointer (some ⟨gb1, 0, none⟩)) (fa46_0_0 gb1) _ rfl rfl) rfl ?_)
          | ((with_reducible refine gate_d (N := 24) rfl ?_); refine ag_fix (.pointer (some ⟨gb1, a0_3.toNat, none⟩)) (ex_at 44 (.pointer (some ⟨gb1, 0, none⟩)) (.int .i64 a0_3) (.pointer (some ⟨gb1, a0_3.toNat, none⟩)) (fun w_ => (run_atv 42 uT44 sT42.size gb1 0 a0_3 hc15.out hc16.out w_).trans (by simp)) _ _ rfl rfl rfl) rfl ?_)
          | ((with_reducible refine gate_d (N := 25) rfl ?_); refine ag_fix (.int .i8 (nt a0_0 a0_3.toNat 0)) (ex_get sT42 gb1 (a0_3.toNat) (.int .i8 (nt a0_0 a0_3.toNat 0)) ((pv a0_0 a0_1 a0_2 a0_3)) BKb1.out (xv_elem 0 (by have h_ : a0_0.length = 64 := LN_a0_0.out; have h1_ := hc15.out; have h2_ := hc16.out; omega)) _ rfl rfl) rfl ?_)
          | ((with_reducible refine gate_d (N := 49) rfl ?_); refine ag_fix (.pointer (some ⟨gb1, 64, none⟩)) (ex_field 46 1 (.pointer (some ⟨gb1, 0, none⟩)) (.pointer (some ⟨gb1, 64, none⟩)) (fa46_1_0 gb1) _ rfl rfl) rfl ?_)
          | ((with_reducible refine gate_d (N := 50) rfl ?_); refine ag_fix (.int .i64 a0_1) (ex_get sT3 gb1 (64) (.int .i64 a0_1) ((pv a0_0 a0_1 a0_2 a0_3)) BKb1.out ((xv_cell (n := 64) LN_a0_0.out 0 64 (by omega)).trans rfl) _ rfl rfl) rfl ?_))
         (try simp only [Act.put, sI, sZ, sS])
         go_ret
         exact ⟨by first | rfl | (simp; done) | (simp [*]; done), HL.out⟩
      ·
       rw [if_neg c16] at H
       exact absurd H (by simp)
     ·
      rw [if_neg c15] at H
      exact absurd H (by simp)
    ·
     rw [if_neg c14] at H
     have c14b0 : (t2 == 5) = false := beq_eq_false_iff_ne.mpr c14
     have c14b1 : (t2 != 5) = true := bne_iff_ne.mpr c14
     have hc14 := hid c14
     clear c14
     by_cases c35 : a0_1 = 1
     ·
      rw [if_pos c35] at H
      exfalso
      clear H
      have := hc12.out; omega
     ·
      rw [if_neg c35] at H
      have c35b0 : (a0_1 == 1) = false := beq_eq_false_iff_ne.mpr c35
      have c35b1 : (a0_1 != 1) = true := bne_iff_ne.mpr c35
      have hc35 := hid c35
      clear c35
      obtain rfl := Option.some.inj H
      clear H
      go_enter Try.func84, Try.ntmps84
      have k37 := True.intro
      go_wp2_with (first
       | ((with_reducible refine gate_d (N := 1) rfl ?_); obtain ⟨gb1, hgb1⟩ : ∃ g_, w.heap.size = g_ := ⟨_, rfl⟩; refine ag_box (pv a0_0 a0_1 a0_2 a0_3) gb1 hgb1 rfl _ rfl rfl ?_; intro w36 hb_ hB_ hs_; have GEb1 : Hid (w.heap.size ≤ gb1) := hid (by have := HL.out.size; omega); replace HL := hid (HL.out.trans (hb_.mono GEb1.out)); have BKb1 := hid hB_; clear hb_ hB_ hs_ hgb1)
       | ((with_reducible refine gate_d (N := 3) rfl ?_); refine ag_fix (.pointer (some ⟨gb1, 66, none⟩)) (ex_field 46 3 (.pointer (some ⟨gb1, 0, none⟩)) (.pointer (some ⟨gb1, 66, none⟩)) (fa46_3_0 gb1) _ rfl rfl) rfl ?_)
       | ((with_reducible refine gate_d (N := 4) rfl ?_); refine ag_fix (.int .i64 a0_3) (ex_get sT3 gb1 (66) (.int .i64 a0_3) ((pv a0_0 a0_1 a0_2 a0_3)) BKb1.out ((xv_cell (n := 64) LN_a0_0.out 2 66 (by omega)).trans rfl) _ rfl rfl) rfl ?_)
       | ((with_reducible refine gate_d (N := 7) rfl ?_); refine ag_fix (.pointer (some ⟨gb1, 66, none⟩)) (ex_field 46 3 (.pointer (some ⟨gb1, 0, none⟩)) (.pointer (some ⟨gb1, 66, none⟩)) (fa46_3_0 gb1) _ rfl rfl) rfl ?_)
       | ((with_reducible refine gate_d (N := 8) rfl ?_); refine ag_fix (.int .i64 a0_3) (ex_get sT3 gb1 (66) (.int .i64 a0_3) ((pv a0_0 a0_1 a0_2 a0_3)) BKb1.out ((xv_cell (n := 64) LN_a0_0.out 2 66 (by omega)).trans rfl) _ rfl rfl) rfl ?_)
       | ((with_reducible refine gate_d (N := 11) rfl ?_); refine ag_fix (.pointer (some ⟨gb1, 64, none⟩)) (ex_field 46 1 (.pointer (some ⟨gb1, 0, none⟩)) (.pointer (some ⟨gb1, 64, none⟩)) (fa46_1_0 gb1) _ rfl rfl) rfl ?_)
       | ((with_reducible refine gate_d (N := 12) rfl ?_); refine ag_fix (.int .i64 a0_1) (ex_get sT3 gb1 (64) (.int .i64 a0_1) ((pv a0_0 a0_1 a0_2 a0_3)) BKb1.out ((xv_cell (n := 64) LN_a0_0.out 0 64 (by omega)).trans rfl) _ rfl rfl) rfl ?_)
       | ((with_reducible refine gate_d (N := 15) rfl ?_); refine ag_fix (.pointer (some ⟨gb1, 66, none⟩)) (ex_field 46 3 (.pointer (some ⟨gb1, 0, none⟩)) (.pointer (some ⟨gb1, 66, none⟩)) (fa46_3_0 gb1) _ rfl rfl) rfl ?_)
       | ((with_reducible refine gate_d (N := 16) rfl ?_); refine ag_fix (.int .i64 a0_3) (ex_get sT3 gb1 (66) (.int .i64 a0_3) ((pv a0_0 a0_1 a0_2 a0_3)) BKb1.out ((xv_cell (n := 64) LN_a0_0.out 2 66 (by omega)).trans rfl) _ rfl rfl) rfl ?_)
       | (go_at_call 77; clear k37; refine (i_alfilref01_Rank.calls k a0_3 t2 _ A13.out).mono ?_; rintro e_ w' ⟨rfl, rfl⟩)
       | ((with_reducible refine gate_d (N := 49) rfl ?_); refine ag_fix (.pointer (some ⟨gb1, 64, none⟩)) (ex_field 46 1 (.pointer (some ⟨gb1, 0, none⟩)) (.pointer (some ⟨gb1, 64, none⟩)) (fa46_1_0 gb1) _ rfl rfl) rfl ?_)
       | ((with_reducible refine gate_d (N := 50) rfl ?_); refine ag_fix (.int .i64 a0_1) (ex_get sT3 gb1 (64) (.int .i64 a0_1) ((pv a0_0 a0_1 a0_2 a0_3)) BKb1.out ((xv_cell (n := 64) LN_a0_0.out 0 64 (by omega)).trans rfl) _ rfl rfl) rfl ?_))
      (try simp only [Act.put, sI, sZ, sS])
      go_ret
      exact ⟨by first | rfl | (simp; done) | (simp [*]; done), HL.out⟩
   ·
    rw [if_neg c12] at H
    have c12b0 : (a0_1 == 0) = false := beq_eq_false_iff_ne.mpr c12
    have c12b1 : (a0_1 != 0) = true := bne_iff_ne.mpr c12
    have hc12 := hid c12
    clear c12
    by_cases c38 : a0_1 = 1
    ·
     rw [if_pos c38] at H
     have c38b0 : (a0_1 == 1) = true := beq_iff_eq.mpr c38
     have c38b1 : (a0_1 != 1) = false := bne_eq_false_iff_eq.mpr c38
     have hc38 := hid c38
     clear c38
     replace H := Option.bind_eq_some_iff.mp H
     obtain ⟨t7, A39_, H⟩ := H
     have A39 := hid A39_
     clear A39_
     by_cases c40 : t7 = 2
     ·
      rw [if_pos c40] at H
      have c40b0 : (t7 == 2) = true := beq_iff_eq.mpr c40
      have c40b1 : (t7 != 2) = false := bne_eq_false_iff_eq.mpr c40
      have hc40 := hid c40
      clear c40
      by_cases c41 : 0 ≤ a0_3
      ·
       rw [if_pos c41] at H
       have c41b0 : decide (0 ≤ a0_3) = true := decide_eq_true c41
       have hc41 := hid c41
       clear c41
       by_cases c42 : a0_3 < 64
       ·
        rw [if_pos c42] at H
        have c42b0 : decide (a0_3 < 64) = true := decide_eq_true c42
        have hc42 := hid c42
        clear c42
        by_cases c43 : (nt a0_0 a0_3.toNat 0) = 0
        ·
         rw [if_pos c43] at H
         have c43b0 : ((nt a0_0 a0_3.toNat 0) == 0) = true := beq_iff_eq.mpr c43
         have c43b1 : ((nt a0_0 a0_3.toNat 0) != 0) = false := bne_eq_false_iff_eq.mpr c43
         have hc43 := hid c43
         clear c43
         by_cases c44 : 0 ≤ (wrap64 (a0_3 - 8))
         ·
          rw [if_pos c44] at H
          have c44b0 : decide (0 ≤ (wrap64 (a0_3 - 8))) = true := decide_eq_true c44
          have hc44 := hid c44
          clear c44
          by_cases c45 : (wrap64 (a0_3 - 8)) < 64
          ·
           rw [if_pos c45] at H
           have c45b0 : decide ((wrap64 (a0_3 - 8)) < 64) = true := decide_eq_true c45
           have hc45 := hid c45
           clear c45
           by_cases c46 : (nt a0_0 ((wrap64 (a0_3 - 8)).toNat) 0) = 0
           ·
            rw [if_pos c46] at H
            have c46b0 : ((nt a0_0 ((wrap64 (a0_3 - 8)).toNat) 0) == 0) = true := beq_iff_eq.mpr c46
            have c46b1 : ((nt a0_0 ((wrap64 (a0_3 - 8)).toNat) 0) != 0) = false := bne_eq_false_iff_eq.mpr c46
            have hc46 := hid c46
            clear c46
            by_cases c47 : 0 ≤ (wrap64 (a0_3 + 8))
            ·
             rw [if_pos c47] at H
             have c47b0 : decide (0 ≤ (wrap64 (a0_3 + 8))) = true := decide_eq_true c47
             have hc47 := hid c47
             clear c47
             by_cases c48 : (wrap64 (a0_3 + 8)) < 64
             ·
              rw [if_pos c48] at H
              have c48b0 : decide ((wrap64 (a0_3 + 8)) < 64) = true := decide_eq_true c48
              have hc48 := hid c48
              clear c48
              by_cases c49 : (nt a0_0 ((wrap64 (a0_3 + 8)).toNat) 0) = 1
              ·
               rw [if_pos c49] at H
               have c49b0 : ((nt a0_0 ((wrap64 (a0_3 + 8)).toNat) 0) == 1) = true := beq_iff_eq.mpr c49
               have c49b1 : ((nt a0_0 ((wrap64 (a0_3 + 8)).toNat) 0) != 1) = false := bne_eq_false_iff_eq.mpr c49
               have hc49 := hid c49
               clear c49
               obtain rfl := Option.some.inj H
               clear H
               go_enter Try.func84, Try.ntmps84
               have k51 := True.intro
               go_wp2_with (first
                | ((with_reducible refine gate_d (N := 1) rfl ?_); obtain ⟨gb1, hgb1⟩ : ∃ g_, w.heap.size = g_ := ⟨_, rfl⟩; refine ag_box (pv a0_0 a0_1 a0_2 a0_3) gb1 hgb1 rfl _ rfl rfl ?_; intro w50 hb_ hB_ hs_; have GEb1 : Hid (w.heap.size ≤ gb1) := hid (by have := HL.out.size; omega); replace HL := hid (HL.out.trans (hb_.mono GEb1.out)); have BKb1 := hid hB_; clear hb_ hB_ hs_ hgb1)
                | ((with_reducible refine gate_d (N := 3) rfl ?_); refine ag_fix (.pointer (some ⟨gb1, 66, none⟩)) (ex_field 46 3 (.pointer (some ⟨gb1, 0, none⟩)) (.pointer (some ⟨gb1, 66, none⟩)) (fa46_3_0 gb1) _ rfl rfl) rfl ?_)
                | ((with_reducible refine gate_d (N := 4) rfl ?_); refine ag_fix (.int .i64 a0_3) (ex_get sT3 gb1 (66) (.int .i64 a0_3) ((pv a0_0 a0_1 a0_2 a0_3)) BKb1.out ((xv_cell (n := 64) LN_a0_0.out 2 66 (by omega)).trans rfl) _ rfl rfl) rfl ?_)
                | ((with_reducible refine gate_d (N := 7) rfl ?_); refine ag_fix (.pointer (some ⟨gb1, 66, none⟩)) (ex_field 46 3 (.pointer (some ⟨gb1, 0, none⟩)) (.pointer (some ⟨gb1, 66, none⟩)) (fa46_3_0 gb1) _ rfl rfl) rfl ?_)
                | ((with_reducible refine gate_d (N := 8) rfl ?_); refine ag_fix (.int .i64 a0_3) (ex_get sT3 gb1 (66) (.int .i64 a0_3) ((pv a0_0 a0_1 a0_2 a0_3)) BKb1.out ((xv_cell (n := 64) LN_a0_0.out 2 66 (by omega)).trans rfl) _ rfl rfl) rfl ?_)
                | ((with_reducible refine gate_d (N := 11) rfl ?_); refine ag_fix (.pointer (some ⟨gb1, 64, none⟩)) (ex_field 46 1 (.pointer (some ⟨gb1, 0, none⟩)) (.pointer (some ⟨gb1, 64, none⟩)) (fa46_1_0 gb1) _ rfl rfl) rfl ?_)
                | ((with_reducible refine gate_d (N := 12) rfl ?_); refine ag_fix (.int .i64 a0_1) (ex_get sT3 gb1 (64) (.int .i64 a0_1) ((pv a0_0 a0_1 a0_2 a0_3)) BKb1.out ((xv_cell (n := 64) LN_a0_0.out 0 64 (by omega)).trans rfl) _ rfl rfl) rfl ?_)
                | ((with_reducible refine gate_d (N := 49) rfl ?_); refine ag_fix (.pointer (some ⟨gb1, 64, none⟩)) (ex_field 46 1 (.pointer (some ⟨gb1, 0, none⟩)) (.pointer (some ⟨gb1, 64, none⟩)) (fa46_1_0 gb1) _ rfl rfl) rfl ?_)
                | ((with_reducible refine gate_d (N := 50) rfl ?_); refine ag_fix (.int .i64 a0_1) (ex_get sT3 gb1 (64) (.int .i64 a0_1) ((pv a0_0 a0_1 a0_2 a0_3)) BKb1.out ((xv_cell (n := 64) LN_a0_0.out 0 64 (by omega)).trans rfl) _ rfl rfl) rfl ?_)
                | ((with_reducible refine gate_d (N := 53) rfl ?_); refine ag_fix (.pointer (some ⟨gb1, 66, none⟩)) (ex_field 46 3 (.pointer (some ⟨gb1, 0, none⟩)) (.pointer (some ⟨gb1, 66, none⟩)) (fa46_3_0 gb1) _ rfl rfl) rfl ?_)
                | ((with_reducible refine gate_d (N := 54) rfl ?_); refine ag_fix (.int .i64 a0_3) (ex_get sT3 gb1 (66) (.int .i64 a0_3) ((pv a0_0 a0_1 a0_2 a0_3)) BKb1.out ((xv_cell (n := 64) LN_a0_0.out 2 66 (by omega)).trans rfl) _ rfl rfl) rfl ?_)
                | (go_at_call 77; clear k51; refine (i_alfilref01_Rank.calls k a0_3 t7 _ A39.out).mono ?_; rintro e_ w' ⟨rfl, rfl⟩)
                | ((with_reducible refine gate_d (N := 59) rfl ?_); refine ag_fix (.pointer (some ⟨gb1, 66, none⟩)) (ex_field 46 3 (.pointer (some ⟨gb1, 0, none⟩)) (.pointer (some ⟨gb1, 66, none⟩)) (fa46_3_0 gb1) _ rfl rfl) rfl ?_)
                | ((with_reducible refine gate_d (N := 60) rfl ?_); refine ag_fix (.int .i64 a0_3) (ex_get sT3 gb1 (66) (.int .i64 a0_3) ((pv a0_0 a0_1 a0_2 a0_3)) BKb1.out ((xv_cell (n := 64) LN_a0_0.out 2 66 (by omega)).trans rfl) _ rfl rfl) rfl ?_)
                | ((with_reducible refine gate_d (N := 61) rfl ?_); refine ag_fix (.pointer (some ⟨gb1, 0, none⟩)) (ex_field 46 0 (.pointer (some ⟨gb1, 0, none⟩)) (.pointer (some ⟨gb1, 0, none⟩)) (fa46_0_0 gb1) _ rfl rfl) rfl ?_)
                | ((with_reducible refine gate_d (N := 62) rfl ?_); refine ag_fix (.pointer (some ⟨gb1, a0_3.toNat, none⟩)) (ex_at 44 (.pointer (some ⟨gb1, 0, none⟩)) (.int .i64 a0_3) (.pointer (some ⟨gb1, a0_3.toNat, none⟩)) (fun w_ => (run_atv 42 uT44 sT42.size gb1 0 a0_3 hc41.out hc42.out w_).trans (by simp)) _ _ rfl rfl rfl) rfl ?_)
                | ((with_reducible refine gate_d (N := 63) rfl ?_); refine ag_fix (.int .i8 (nt a0_0 a0_3.toNat 0)) (ex_get sT42 gb1 (a0_3.toNat) (.int .i8 (nt a0_0 a0_3.toNat 0)) ((pv a0_0 a0_1 a0_2 a0_3)) BKb1.out (xv_elem 0 (by have h_ : a0_0.length = 64 := LN_a0_0.out; have h1_ := hc41.out; have h2_ := hc42.out; omega)) _ rfl rfl) rfl ?_)
                | ((with_reducible refine gate_d (N := 67) rfl ?_); refine ag_fix (.pointer (some ⟨gb1, 66, none⟩)) (ex_field 46 3 (.pointer (some ⟨gb1, 0, none⟩)) (.pointer (some ⟨gb1, 66, none⟩)) (fa46_3_0 gb1) _ rfl rfl) rfl ?_)
                | ((with_reducible refine gate_d (N := 68) rfl ?_); refine ag_fix (.int .i64 a0_3) (ex_get sT3 gb1 (66) (.int .i64 a0_3) ((pv a0_0 a0_1 a0_2 a0_3)) BKb1.out ((xv_cell (n := 64) LN_a0_0.out 2 66 (by omega)).trans rfl) _ rfl rfl) rfl ?_)
                | ((with_reducible refine gate_d (N := 70) rfl ?_); refine ag_fix (.pointer (some ⟨gb1, 0, none⟩)) (ex_field 46 0 (.pointer (some ⟨gb1, 0, none⟩)) (.pointer (some ⟨gb1, 0, none⟩)) (fa46_0_0 gb1) _ rfl rfl) rfl ?_)
                | ((with_reducible refine gate_d (N := 71) rfl ?_); refine ag_fix (.pointer (some ⟨gb1, (wrap64 (a0_3 - 8)).toNat, none⟩)) (ex_at 44 (.pointer (some ⟨gb1, 0, none⟩)) (.int .i64 (wrap64 (a0_3 - 8))) (.pointer (some ⟨gb1, (wrap64 (a0_3 - 8)).toNat, none⟩)) (fun w_ => (run_atv 42 uT44 sT42.size gb1 0 (wrap64 (a0_3 - 8)) hc44.out hc45.out w_).trans (by simp)) _ _ rfl rfl rfl) rfl ?_)
                | ((with_reducible refine gate_d (N := 72) rfl ?_); refine ag_fix (.int .i8 (nt a0_0 ((wrap64 (a0_3 - 8)).toNat) 0)) (ex_get sT42 gb1 ((wrap64 (a0_3 - 8)).toNat) (.int .i8 (nt a0_0 ((wrap64 (a0_3 - 8)).toNat) 0)) ((pv a0_0 a0_1 a0_2 a0_3)) BKb1.out (xv_elem 0 (by have h_ : a0_0.length = 64 := LN_a0_0.out; have h1_ := hc44.out; have h2_ := hc45.out; omega)) _ rfl rfl) rfl ?_)
                | ((with_reducible refine gate_d (N := 76) rfl ?_); refine ag_fix (.pointer (some ⟨gb1, 66, none⟩)) (ex_field 46 3 (.pointer (some ⟨gb1, 0, none⟩)) (.pointer (some ⟨gb1, 66, none⟩)) (fa46_3_0 gb1) _ rfl rfl) rfl ?_)
                | ((with_reducible refine gate_d (N := 77) rfl ?_); refine ag_fix (.int .i64 a0_3) (ex_get sT3 gb1 (66) (.int .i64 a0_3) ((pv a0_0 a0_1 a0_2 a0_3)) BKb1.out ((xv_cell (n := 64) LN_a0_0.out 2 66 (by omega)).trans rfl) _ rfl rfl) rfl ?_)
                | ((with_reducible refine gate_d (N := 79) rfl ?_); refine ag_fix (.pointer (some ⟨gb1, 0, none⟩)) (ex_field 46 0 (.pointer (some ⟨gb1, 0, none⟩)) (.pointer (some ⟨gb1, 0, none⟩)) (fa46_0_0 gb1) _ rfl rfl) rfl ?_)
                | ((with_reducible refine gate_d (N := 80) rfl ?_); refine ag_fix (.pointer (some ⟨gb1, (wrap64 (a0_3 + 8)).toNat, none⟩)) (ex_at 44 (.pointer (some ⟨gb1, 0, none⟩)) (.int .i64 (wrap64 (a0_3 + 8))) (.pointer (some ⟨gb1, (wrap64 (a0_3 + 8)).toNat, none⟩)) (fun w_ => (run_atv 42 uT44 sT42.size gb1 0 (wrap64 (a0_3 + 8)) hc47.out hc48.out w_).trans (by simp)) _ _ rfl rfl rfl) rfl ?_)
                | ((with_reducible refine gate_d (N := 81) rfl ?_); refine ag_fix (.int .i8 (nt a0_0 ((wrap64 (a0_3 + 8)).toNat) 0)) (ex_get sT42 gb1 ((wrap64 (a0_3 + 8)).toNat) (.int .i8 (nt a0_0 ((wrap64 (a0_3 + 8)).toNat) 0)) ((pv a0_0 a0_1 a0_2 a0_3)) BKb1.out (xv_elem 0 (by have h_ : a0_0.length = 64 := LN_a0_0.out; have h1_ := hc47.out; have h2_ := hc48.out; omega)) _ rfl rfl) rfl ?_)
                | ((with_reducible refine gate_d (N := 84) rfl ?_); refine ag_fix (.pointer (some ⟨gb1, 66, none⟩)) (ex_field 46 3 (.pointer (some ⟨gb1, 0, none⟩)) (.pointer (some ⟨gb1, 66, none⟩)) (fa46_3_0 gb1) _ rfl rfl) rfl ?_)
                | ((with_reducible refine gate_d (N := 85) rfl ?_); refine ag_fix (.int .i64 a0_3) (ex_get sT3 gb1 (66) (.int .i64 a0_3) ((pv a0_0 a0_1 a0_2 a0_3)) BKb1.out ((xv_cell (n := 64) LN_a0_0.out 2 66 (by omega)).trans rfl) _ rfl rfl) rfl ?_))
               (try simp only [Act.put, sI, sZ, sS])
               go_ret
               exact ⟨by first | rfl | (simp; done) | (simp [*]; done), HL.out⟩
              ·
               rw [if_neg c49] at H
               have c49b0 : ((nt a0_0 ((wrap64 (a0_3 + 8)).toNat) 0) == 1) = false := beq_eq_false_iff_ne.mpr c49
               have c49b1 : ((nt a0_0 ((wrap64 (a0_3 + 8)).toNat) 0) != 1) = true := bne_iff_ne.mpr c49
               have hc49 := hid c49
               clear c49
               obtain rfl := Option.some.inj H
               clear H
               go_enter Try.func84, Try.ntmps84
               have k53 := True.intro
               go_wp2_with (first
                | ((with_reducible refine gate_d (N := 1) rfl ?_); obtain ⟨gb1, hgb1⟩ : ∃ g_, w.heap.size = g_ := ⟨_, rfl⟩; refine ag_box (pv a0_0 a0_1 a0_2 a0_3) gb1 hgb1 rfl _ rfl rfl ?_; intro w52 hb_ hB_ hs_; have GEb1 : Hid (w.heap.size ≤ gb1) := hid (by have := HL.out.size; omega); replace HL := hid (HL.out.trans (hb_.mono GEb1.out)); have BKb1 := hid hB_; clear hb_ hB_ hs_ hgb1)
                | ((with_reducible refine gate_d (N := 3) rfl ?_); refine ag_fix (.pointer (some ⟨gb1, 66, none⟩)) (ex_field 46 3 (.pointer (some ⟨gb1, 0, none⟩)) (.pointer (some ⟨gb1, 66, none⟩)) (fa46_3_0 gb1) _ rfl rfl) rfl ?_)
                | ((with_reducible refine gate_d (N := 4) rfl ?_); refine ag_fix (.int .i64 a0_3) (ex_get sT3 gb1 (66) (.int .i64 a0_3) ((pv a0_0 a0_1 a0_2 a0_3)) BKb1.out ((xv_cell (n := 64) LN_a0_0.out 2 66 (by omega)).trans rfl) _ rfl rfl) rfl ?_)
                | ((with_reducible refine gate_d (N := 7) rfl ?_); refine ag_fix (.pointer (some ⟨gb1, 66, none⟩)) (ex_field 46 3 (.pointer (some ⟨gb1, 0, none⟩)) (.pointer (some ⟨gb1, 66, none⟩)) (fa46_3_0 gb1) _ rfl rfl) rfl ?_)
                | ((with_reducible refine gate_d (N := 8) rfl ?_); refine ag_fix (.int .i64 a0_3) (ex_get sT3 gb1 (66) (.int .i64 a0_3) ((pv a0_0 a0_1 a0_2 a0_3)) BKb1.out ((xv_cell (n := 64) LN_a0_0.out 2 66 (by omega)).trans rfl) _ rfl rfl) rfl ?_)
                | ((with_reducible refine gate_d (N := 11) rfl ?_); refine ag_fix (.pointer (some ⟨gb1, 64, none⟩)) (ex_field 46 1 (.pointer (some ⟨gb1, 0, none⟩)) (.pointer (some ⟨gb1, 64, none⟩)) (fa46_1_0 gb1) _ rfl rfl) rfl ?_)
                | ((with_reducible refine gate_d (N := 12) rfl ?_); refine ag_fix (.int .i64 a0_1) (ex_get sT3 gb1 (64) (.int .i64 a0_1) ((pv a0_0 a0_1 a0_2 a0_3)) BKb1.out ((xv_cell (n := 64) LN_a0_0.out 0 64 (by omega)).trans rfl) _ rfl rfl) rfl ?_)
                | ((with_reducible refine gate_d (N := 49) rfl ?_); refine ag_fix (.pointer (some ⟨gb1, 64, none⟩)) (ex_field 46 1 (.pointer (some ⟨gb1, 0, none⟩)) (.pointer (some ⟨gb1, 64, none⟩)) (fa46_1_0 gb1) _ rfl rfl) rfl ?_)
                | ((with_reducible refine gate_d (N := 50) rfl ?_); refine ag_fix (.int .i64 a0_1) (ex_get sT3 gb1 (64) (.int .i64 a0_1) ((pv a0_0 a0_1 a0_2 a0_3)) BKb1.out ((xv_cell (n := 64) LN_a0_0.out 0 64 (by omega)).trans rfl) _ rfl rfl) rfl ?_)
                | ((with_reducible refine gate_d (N := 53) rfl ?_); refine ag_fix (.pointer (some ⟨gb1, 66, none⟩)) (ex_field 46 3 (.pointer (some ⟨gb1, 0, none⟩)) (.pointer (some ⟨gb1, 66, none⟩)) (fa46_3_0 gb1) _ rfl rfl) rfl ?_)
                | ((with_reducible refine gate_d (N := 54) rfl ?_); refine ag_fix (.int .i64 a0_3) (ex_get sT3 gb1 (66) (.int .i64 a0_3) ((pv a0_0 a0_1 a0_2 a0_3)) BKb1.out ((xv_cell (n := 64) LN_a0_0.out 2 66 (by omega)).trans rfl) _ rfl rfl) rfl ?_)
                | (go_at_call 77; clear k53; refine (i_alfilref01_Rank.calls k a0_3 t7 _ A39.out).mono ?_; rintro e_ w' ⟨rfl, rfl⟩)
                | ((with_reducible refine gate_d (N := 59) rfl ?_); refine ag_fix (.pointer (some ⟨gb1, 66, none⟩)) (ex_field 46 3 (.pointer (some ⟨gb1, 0, none⟩)) (.pointer (some ⟨gb1, 66, none⟩)) (fa46_3_0 gb1) _ rfl rfl) rfl ?_)
                | ((with_reducible refine gate_d (N := 60) rfl ?_); refine ag_fix (.int .i64 a0_3) (ex_get sT3 gb1 (66) (.int .i64 a0_3) ((pv a0_0 a0_1 a0_2 a0_3)) BKb1.out ((xv_cell (n := 64) LN_a0_0.out 2 66 (by omega)).trans rfl) _ rfl rfl) rfl ?_)
                | ((with_reducible refine gate_d (N := 61) rfl ?_); refine ag_fix (.pointer (some ⟨gb1, 0, none⟩)) (ex_field 46 0 (.pointer (some ⟨gb1, 0, none⟩)) (.pointer (some ⟨gb1, 0, none⟩)) (fa46_0_0 gb1) _ rfl rfl) rfl ?_)
                | ((with_reducible refine gate_d (N := 62) rfl ?_); refine ag_fix (.pointer (some ⟨gb1, a0_3.toNat, none⟩)) (ex_at 44 (.pointer (some ⟨gb1, 0, none⟩)) (.int .i64 a0_3) (.pointer (some ⟨gb1, a0_3.toNat, none⟩)) (fun w_ => (run_atv 42 uT44 sT42.size gb1 0 a0_3 hc41.out hc42.out w_).trans (by simp)) _ _ rfl rfl rfl) rfl ?_)
                | ((with_reducible refine gate_d (N := 63) rfl ?_); refine ag_fix (.int .i8 (nt a0_0 a0_3.toNat 0)) (ex_get sT42 gb1 (a0_3.toNat) (.int .i8 (nt a0_0 a0_3.toNat 0)) ((pv a0_0 a0_1 a0_2 a0_3)) BKb1.out (xv_elem 0 (by have h_ : a0_0.length = 64 := LN_a0_0.out; have h1_ := hc41.out; have h2_ := hc42.out; omega)) _ rfl rfl) rfl ?_)
                | ((with_reducible refine gate_d (N := 67) rfl ?_); refine ag_fix (.pointer (some ⟨gb1, 66, none⟩)) (ex_field 46 3 (.pointer (some ⟨gb1, 0, none⟩)) (.pointer (some ⟨gb1, 66, none⟩)) (fa46_3_0 gb1) _ rfl rfl) rfl ?_)
                | ((with_reducible refine gate_d (N := 68) rfl ?_); refine ag_fix (.int .i64 a0_3) (ex_get sT3 gb1 (66) (.int .i64 a0_3) ((pv a0_0 a0_1 a0_2 a0_3)) BKb1.out ((xv_cell (n := 64) LN_a0_0.out 2 66 (by omega)).trans rfl) _ rfl rfl) rfl ?_)
                | ((with_reducible refine gate_d (N := 70) rfl ?_); refine ag_fix (.pointer (some ⟨gb1, 0, none⟩)) (ex_field 46 0 (.pointer (some ⟨gb1, 0, none⟩)) (.pointer (some ⟨gb1, 0, none⟩)) (fa46_0_0 gb1) _ rfl rfl) rfl ?_)
                | ((with_reducible refine gate_d (N := 71) rfl ?_); refine ag_fix (.pointer (some ⟨gb1, (wrap64 (a0_3 - 8)).toNat, none⟩)) (ex_at 44 (.pointer (some ⟨gb1, 0, none⟩)) (.int .i64 (wrap64 (a0_3 - 8))) (.pointer (some ⟨gb1, (wrap64 (a0_3 - 8)).toNat, none⟩)) (fun w_ => (run_atv 42 uT44 sT42.size gb1 0 (wrap64 (a0_3 - 8)) hc44.out hc45.out w_).trans (by simp)) _ _ rfl rfl rfl) rfl ?_)
                | ((with_reducible refine gate_d (N := 72) rfl ?_); refine ag_fix (.int .i8 (nt a0_0 ((wrap64 (a0_3 - 8)).toNat) 0)) (ex_get sT42 gb1 ((wrap64 (a0_3 - 8)).toNat) (.int .i8 (nt a0_0 ((wrap64 (a0_3 - 8)).toNat) 0)) ((pv a0_0 a0_1 a0_2 a0_3)) BKb1.out (xv_elem 0 (by have h_ : a0_0.length = 64 := LN_a0_0.out; have h1_ := hc44.out; have h2_ := hc45.out; omega)) _ rfl rfl) rfl ?_)
                | ((with_reducible refine gate_d (N := 76) rfl ?_); refine ag_fix (.pointer (some ⟨gb1, 66, none⟩)) (ex_field 46 3 (.pointer (some ⟨gb1, 0, none⟩)) (.pointer (some ⟨gb1, 66, none⟩)) (fa46_3_0 gb1) _ rfl rfl) rfl ?_)
                | ((with_reducible refine gate_d (N := 77) rfl ?_); refine ag_fix (.int .i64 a0_3) (ex_get sT3 gb1 (66) (.int .i64 a0_3) ((pv a0_0 a0_1 a0_2 a0_3)) BKb1.out ((xv_cell (n := 64) LN_a0_0.out 2 66 (by omega)).trans rfl) _ rfl rfl) rfl ?_)
                | ((with_reducible refine gate_d (N := 79) rfl ?_); refine ag_fix (.pointer (some ⟨gb1, 0, none⟩)) (ex_field 46 0 (.pointer (some ⟨gb1, 0, none⟩)) (.pointer (some ⟨gb1, 0, none⟩)) (fa46_0_0 gb1) _ rfl rfl) rfl ?_)
                | ((with_reducible refine gate_d (N := 80) rfl ?_); refine ag_fix (.pointer (some ⟨gb1, (wrap64 (a0_3 + 8)).toNat, none⟩)) (ex_at 44 (.pointer (some ⟨gb1, 0, none⟩)) (.int .i64 (wrap64 (a0_3 + 8))) (.pointer (some ⟨gb1, (wrap64 (a0_3 + 8)).toNat, none⟩)) (fun w_ => (run_atv 42 uT44 sT42.size gb1 0 (wrap64 (a0_3 + 8)) hc47.out hc48.out w_).trans (by simp)) _ _ rfl rfl rfl) rfl ?_)
                | ((with_reducible refine gate_d (N := 81) rfl ?_); refine ag_fix (.int .i8 (nt a0_0 ((wrap64 (a0_3 + 8)).toNat) 0)) (ex_get sT42 gb1 ((wrap64 (a0_3 + 8)).toNat) (.int .i8 (nt a0_0 ((wrap64 (a0_3 + 8)).toNat) 0)) ((pv a0_0 a0_1 a0_2 a0_3)) BKb1.out (xv_elem 0 (by have h_ : a0_0.length = 64 := LN_a0_0.out; have h1_ := hc47.out; have h2_ := hc48.out; omega)) _ rfl rfl) rfl ?_))
               (try simp only [Act.put, sI, sZ, sS])
               go_ret
               exact ⟨by first | rfl | (simp; done) | (simp [*]; done), HL.out⟩
             ·
              rw [if_neg c48] at H
              exact absurd H (by simp)
            ·
             rw [if_neg c47] at H
             exact absurd H (by simp)
           ·
            rw [if_neg c46] at H
            have c46b0 : ((nt a0_0 ((wrap64 (a0_3 - 8)).toNat) 0) == 0) = false := beq_eq_false_iff_ne.mpr c46
            have c46b1 : ((nt a0_0 ((wrap64 (a0_3 - 8)).toNat) 0) != 0) = true := bne_iff_ne.mpr c46
            have hc46 := hid c46
            clear c46
            obtain rfl := Option.some.inj H
            clear H
            go_enter Try.func84, Try.ntmps84
            have k55 := True.intro
            go_wp2_with (first
             | ((with_reducible refine gate_d (N := 1) rfl ?_); obtain ⟨gb1, hgb1⟩ : ∃ g_, w.heap.size = g_ := ⟨_, rfl⟩; refine ag_box (pv a0_0 a0_1 a0_2 a0_3) gb1 hgb1 rfl _ rfl rfl ?_; intro w54 hb_ hB_ hs_; have GEb1 : Hid (w.heap.size ≤ gb1) := hid (by have := HL.out.size; omega); replace HL := hid (HL.out.trans (hb_.mono GEb1.out)); have BKb1 := hid hB_; clear hb_ hB_ hs_ hgb1)
             | ((with_reducible refine gate_d (N := 3) rfl ?_); refine ag_fix (.pointer (some ⟨gb1, 66, none⟩)) (ex_field 46 3 (.pointer (some ⟨gb1, 0, none⟩)) (.pointer (some ⟨gb1, 66, none⟩)) (fa46_3_0 gb1) _ rfl rfl) rfl ?_)
             | ((with_reducible refine gate_d (N := 4) rfl ?_); refine ag_fix (.int .i64 a0_3) (ex_get sT3 gb1 (66) (.int .i64 a0_3) ((pv a0_0 a0_1 a0_2 a0_3)) BKb1.out ((xv_cell (n := 64) LN_a0_0.out 2 66 (by omega)).trans rfl) _ rfl rfl) rfl ?_)
             | ((with_reducible refine gate_d (N := 7) rfl ?_); refine ag_fix (.pointer (some ⟨gb1, 66, none⟩)) (ex_field 46 3 (.pointer (some ⟨gb1, 0, none⟩)) (.pointer (some ⟨gb1, 66, none⟩)) (fa46_3_0 gb1) _ rfl rfl) rfl ?_)
             | ((with_reducible refine gate_d (N := 8) rfl ?_); refine ag_fix (.int .i64 a0_3) (ex_get sT3 gb1 (66) (.int .i64 a0_3) ((pv a0_0 a0_1 a0_2 a0_3)) BKb1.out ((xv_cell (n := 64) LN_a0_0.out 2 66 (by omega)).trans rfl) _ rfl rfl) rfl ?_)
             | ((with_reducible refine gate_d (N := 11) rfl ?_); refine ag_fix (.pointer (some ⟨gb1, 64, none⟩)) (ex_field 46 1 (.pointer (some ⟨gb1, 0, none⟩)) (.pointer (some ⟨gb1, 64, none⟩)) (fa46_1_0 gb1) _ rfl rfl) rfl ?_)
             | ((with_reducible refine gate_d (N := 12) rfl ?_); refine ag_fix (.int .i64 a0_1) (ex_get sT3 gb1 (64) (.int .i64 a0_1) ((pv a0_0 a0_1 a0_2 a0_3)) BKb1.out ((xv_cell (n := 64) LN_a0_0.out 0 64 (by omega)).trans rfl) _ rfl rfl) rfl ?_)
             | ((with_reducible refine gate_d (N := 49) rfl ?_); refine ag_fix (.pointer (some ⟨gb1, 64, none⟩)) (ex_field 46 1 (.pointer (some ⟨gb1, 0, none⟩)) (.pointer (some ⟨gb1, 64, none⟩)) (fa46_1_0 gb1) _ rfl rfl) rfl ?_)
             | ((with_reducible refine gate_d (N := 50) rfl ?_); refine ag_fix (.int .i64 a0_1) (ex_get sT3 gb1 (64) (.int .i64 a0_1) ((pv a0_0 a0_1 a0_2 a0_3)) BKb1.out ((xv_cell (n := 64) LN_a0_0.out 0 64 (by omega)).trans rfl) _ rfl rfl) rfl ?_)
             | ((with_reducible refine gate_d (N := 53) rfl ?_); refine ag_fix (.pointer (some ⟨gb1, 66, none⟩)) (ex_field 46 3 (.pointer (some ⟨gb1, 0, none⟩)) (.pointer (some ⟨gb1, 66, none⟩)) (fa46_3_0 gb1) _ rfl rfl) rfl ?_)
             | ((with_reducible refine gate_d (N := 54) rfl ?_); refine ag_fix (.int .i64 a0_3) (ex_get sT3 gb1 (66) (.int .i64 a0_3) ((pv a0_0 a0_1 a0_2 a0_3)) BKb1.out ((xv_cell (n := 64) LN_a0_0.out 2 66 (by omega)).trans rfl) _ rfl rfl) rfl ?_)
             | (go_at_call 77; clear k55; refine (i_alfilref01_Rank.calls k a0_3 t7 _ A39.out).mono ?_; rintro e_ w' ⟨rfl, rfl⟩)
             | ((with_reducible refine gate_d (N := 59) rfl ?_); refine ag_fix (.pointer (some ⟨gb1, 66, none⟩)) (ex_field 46 3 (.pointer (some ⟨gb1, 0, none⟩)) (.pointer (some ⟨gb1, 66, none⟩)) (fa46_3_0 gb1) _ rfl rfl) rfl ?_)
             | ((with_reducible refine gate_d (N := 60) rfl ?_); refine ag_fix (.int .i64 a0_3) (ex_get sT3 gb1 (66) (.int .i64 a0_3) ((pv a0_0 a0_1 a0_2 a0_3)) BKb1.out ((xv_cell (n := 64) LN_a0_0.out 2 66 (by omega)).trans rfl) _ rfl rfl) rfl ?_)
             | ((with_reducible refine gate_d (N := 61) rfl ?_); refine ag_fix (.pointer (some ⟨gb1, 0, none⟩)) (ex_field 46 0 (.pointer (some ⟨gb1, 0, none⟩)) (.pointer (some ⟨gb1, 0, none⟩)) (fa46_0_0 gb1) _ rfl rfl) rfl ?_)
             | ((with_reducible refine gate_d (N := 62) rfl ?_); refine ag_fix (.pointer (some ⟨gb1, a0_3.toNat, none⟩)) (ex_at 44 (.pointer (some ⟨gb1, 0, none⟩)) (.int .i64 a0_3) (.pointer (some ⟨gb1, a0_3.toNat, none⟩)) (fun w_ => (run_atv 42 uT44 sT42.size gb1 0 a0_3 hc41.out hc42.out w_).trans (by simp)) _ _ rfl rfl rfl) rfl ?_)
             | ((with_reducible refine gate_d (N := 63) rfl ?_); refine ag_fix (.int .i8 (nt a0_0 a0_3.toNat 0)) (ex_get sT42 gb1 (a0_3.toNat) (.int .i8 (nt a0_0 a0_3.toNat 0)) ((pv a0_0 a0_1 a0_2 a0_3)) BKb1.out (xv_elem 0 (by have h_ : a0_0.length = 64 := LN_a0_0.out; have h1_ := hc41.out; have h2_ := hc42.out; omega)) _ rfl rfl) rfl ?_)
             | ((with_reducible refine gate_d (N := 67) rfl ?_); refine ag_fix (.pointer (some ⟨gb1, 66, none⟩)) (ex_field 46 3 (.pointer (some ⟨gb1, 0, none⟩)) (.pointer (some ⟨gb1, 66, none⟩)) (fa46_3_0 gb1) _ rfl rfl) rfl ?_)
             | ((with_reducible refine gate_d (N := 68) rfl ?_); refine ag_fix (.int .i64 a0_3) (ex_get sT3 gb1 (66) (.int .i64 a0_3) ((pv a0_0 a0_1 a0_2 a0_3)) BKb1.out ((xv_cell (n := 64) LN_a0_0.out 2 66 (by omega)).trans rfl) _ rfl rfl) rfl ?_)
             | ((with_reducible refine gate_d (N := 70) rfl ?_); refine ag_fix (.pointer (some ⟨gb1, 0, none⟩)) (ex_field 46 0 (.pointer (some ⟨gb1, 0, none⟩)) (.pointer (some ⟨gb1, 0, none⟩)) (fa46_0_0 gb1) _ rfl rfl) rfl ?_)
             | ((with_reducible refine gate_d (N := 71) rfl ?_); refine ag_fix (.pointer (some ⟨gb1, (wrap64 (a0_3 - 8)).toNat, none⟩)) (ex_at 44 (.pointer (some ⟨gb1, 0, none⟩)) (.int .i64 (wrap64 (a0_3 - 8))) (.pointer (some ⟨gb1, (wrap64 (a0_3 - 8)).toNat, none⟩)) (fun w_ => (run_atv 42 uT44 sT42.size gb1 0 (wrap64 (a0_3 - 8)) hc44.out hc45.out w_).trans (by simp)) _ _ rfl rfl rfl) rfl ?_)
             | ((with_reducible refine gate_d (N := 72) rfl ?_); refine ag_fix (.int .i8 (nt a0_0 ((wrap64 (a0_3 - 8)).toNat) 0)) (ex_get sT42 gb1 ((wrap64 (a0_3 - 8)).toNat) (.int .i8 (nt a0_0 ((wrap64 (a0_3 - 8)).toNat) 0)) ((pv a0_0 a0_1 a0_2 a0_3)) BKb1.out (xv_elem 0 (by have h_ : a0_0.length = 64 := LN_a0_0.out; have h1_ := hc44.out; have h2_ := hc45.out; omega)) _ rfl rfl) rfl ?_))
            (try simp only [Act.put, sI, sZ, sS])
            go_ret
            exact ⟨by first | rfl | (simp; done) | (simp [*]; done), HL.out⟩
          ·
           rw [if_neg c45] at H
           exact absurd H (by simp)
         ·
          rw [if_neg c44] at H
          exact absurd H (by simp)
        ·
         rw [if_neg c43] at H
         have c43b0 : ((nt a0_0 a0_3.toNat 0) == 0) = false := beq_eq_false_iff_ne.mpr c43
         have c43b1 : ((nt a0_0 a0_3.toNat 0) != 0) = true := bne_iff_ne.mpr c43
         have hc43 := hid c43
         clear c43
         obtain rfl := Option.some.inj H
         clear H
         go_enter Try.func84, Try.ntmps84
         have k57 := True.intro
         go_wp2_with (first
          | ((with_reducible refine gate_d (N := 1) rfl ?_); obtain ⟨gb1, hgb1⟩ : ∃ g_, w.heap.size = g_ := ⟨_, rfl⟩; refine ag_box (pv a0_0 a0_1 a0_2 a0_3) gb1 hgb1 rfl _ rfl rfl ?_; intro w56 hb_ hB_ hs_; have GEb1 : Hid (w.heap.size ≤ gb1) := hid (by have := HL.out.size; omega); replace HL := hid (HL.out.trans (hb_.mono GEb1.out)); have BKb1 := hid hB_; clear hb_ hB_ hs_ hgb1)
          | ((with_reducible refine gate_d (N := 3) rfl ?_); refine ag_fix (.pointer (some ⟨gb1, 66, none⟩)) (ex_field 46 3 (.pointer (some ⟨gb1, 0, none⟩)) (.pointer (some ⟨gb1, 66, none⟩)) (fa46_3_0 gb1) _ rfl rfl) rfl ?_)
          | ((with_reducible refine gate_d (N := 4) rfl ?_); refine ag_fix (.int .i64 a0_3) (ex_get sT3 gb1 (66) (.int .i64 a0_3) ((pv a0_0 a0_1 a0_2 a0_3)) BKb1.out ((xv_cell (n := 64) LN_a0_0.out 2 66 (by omega)).trans rfl) _ rfl rfl) rfl ?_)
          | ((with_reducible refine gate_d (N := 7) rfl ?_); refine ag_fix (.pointer (some ⟨gb1, 66, none⟩)) (ex_field 46 3 (.pointer (some ⟨gb1, 0, none⟩)) (.pointer (some ⟨gb1, 66, none⟩)) (fa46_3_0 gb1) _ rfl rfl) rfl ?_)
          | ((with_reducible refine gate_d (N := 8) rfl ?_); refine ag_fix (.int .i64 a0_3) (ex_get sT3 gb1 (66) (.int .i64 a0_3) ((pv a0_0 a0_1 a0_2 a0_3)) BKb1.out ((xv_cell (n := 64) LN_a0_0.out 2 66 (by omega)).trans rfl) _ rfl rfl) rfl ?_)
          | ((with_reducible refine gate_d (N := 11) rfl ?_); refine ag_fix (.pointer (some ⟨gb1, 64, none⟩)) (ex_field 46 1 (.pointer (some ⟨gb1, 0, none⟩)) (.pointer (some ⟨gb1, 64, none⟩)) (fa46_1_0 gb1) _ rfl rfl) rfl ?_)
          | ((with_reducible refine gate_d (N := 12) rfl ?_); refine ag_fix (.int .i64 a0_1) (ex_get sT3 gb1 (64) (.int .i64 a0_1) ((pv a0_0 a0_1 a0_2 a0_3)) BKb1.out ((xv_cell (n := 64) LN_a0_0.out 0 64 (by omega)).trans rfl) _ rfl rfl) rfl ?_)
          | ((with_reducible refine gate_d (N := 49) rfl ?_); refine ag_fix (.pointer (some ⟨gb1, 64, none⟩)) (ex_field 46 1 (.pointer (some ⟨gb1, 0, none⟩)) (.pointer (some ⟨gb1, 64, none⟩)) (fa46_1_0 gb1) _ rfl rfl) rfl ?_)
          | ((with_reducible refine gate_d (N := 50) rfl ?_); refine ag_fix (.int .i64 a0_1) (ex_get sT3 gb1 (64) (.int .i64 a0_1) ((pv a0_0 a0_1 a0_2 a0_3)) BKb1.out ((xv_cell (n := 64) LN_a0_0.out 0 64 (by omega)).trans rfl) _ rfl rfl) rfl ?_)
          | ((with_reducible refine gate_d (N := 53) rfl ?_); refine ag_fix (.pointer (some ⟨gb1, 66, none⟩)) (ex_field 46 3 (.pointer (some ⟨gb1, 0, none⟩)) (.pointer (some ⟨gb1, 66, none⟩)) (fa46_3_0 gb1) _ rfl rfl) rfl ?_)
          | ((with_reducible refine gate_d (N := 54) rfl ?_); refine ag_fix (.int .i64 a0_3) (ex_get sT3 gb1 (66) (.int .i64 a0_3) ((pv a0_0 a0_1 a0_2 a0_3)) BKb1.out ((xv_cell (n := 64) LN_a0_0.out 2 66 (by omega)).trans rfl) _ rfl rfl) rfl ?_)
          | (go_at_call 77; clear k57; refine (i_alfilref01_Rank.calls k a0_3 t7 _ A39.out).mono ?_; rintro e_ w' ⟨rfl, rfl⟩)
          | ((with_reducible refine gate_d (N := 59) rfl ?_); refine ag_fix (.pointer (some ⟨gb1, 66, none⟩)) (ex_field 46 3 (.pointer (some ⟨gb1, 0, none⟩)) (.pointer (some ⟨gb1, 66, none⟩)) (fa46_3_0 gb1) _ rfl rfl) rfl ?_)
          | ((with_reducible refine gate_d (N := 60) rfl ?_); refine ag_fix (.int .i64 a0_3) (ex_get sT3 gb1 (66) (.int .i64 a0_3) ((pv a0_0 a0_1 a0_2 a0_3)) BKb1.out ((xv_cell (n := 64) LN_a0_0.out 2 66 (by omega)).trans rfl) _ rfl rfl) rfl ?_)
          | ((with_reducible refine gate_d (N := 61) rfl ?_); refine ag_fix (.pointer (some ⟨gb1, 0, none⟩)) (ex_field 46 0 (.pointer (some ⟨gb1, 0, none⟩)) (.pointer (some ⟨gb1, 0, none⟩)) (fa46_0_0 gb1) _ rfl rfl) rfl ?_)
          | ((with_reducible refine gate_d (N := 62) rfl ?_); refine ag_fix (.pointer (some ⟨gb1, a0_3.toNat, none⟩)) (ex_at 44 (.pointer (some ⟨gb1, 0, none⟩)) (.int .i64 a0_3) (.pointer (some ⟨gb1, a0_3.toNat, none⟩)) (fun w_ => (run_atv 42 uT44 sT42.size gb1 0 a0_3 hc41.out hc42.out w_).trans (by simp)) _ _ rfl rfl rfl) rfl ?_)
          | ((with_reducible refine gate_d (N := 63) rfl ?_); refine ag_fix (.int .i8 (nt a0_0 a0_3.toNat 0)) (ex_get sT42 gb1 (a0_3.toNat) (.int .i8 (nt a0_0 a0_3.toNat 0)) ((pv a0_0 a0_1 a0_2 a0_3)) BKb1.out (xv_elem 0 (by have h_ : a0_0.length = 64 := LN_a0_0.out; have h1_ := hc41.out; have h2_ := hc42.out; omega)) _ rfl rfl) rfl ?_))
         (try simp only [Act.put, sI, sZ, sS])
         go_ret
         exact ⟨by first | rfl | (simp; done) | (simp [*]; done), HL.out⟩
       ·
        rw [if_neg c42] at H
        exact absurd H (by simp)
      ·
       rw [if_neg c41] at H
       exact absurd H (by simp)
     ·
      rw [if_neg c40] at H
      have c40b0 : (t7 == 2) = false := beq_eq_false_iff_ne.mpr c40
      have c40b1 : (t7 != 2) = true := bne_iff_ne.mpr c40
      have hc40 := hid c40
      clear c40
      obtain rfl := Option.some.inj H
      clear H
      go_enter Try.func84, Try.ntmps84
      have k59 := True.intro
      go_wp2_with (first
       | ((with_reducible refine gate_d (N := 1) rfl ?_); obtain ⟨gb1, hgb1⟩ : ∃ g_, w.heap.size = g_ := ⟨_, rfl⟩; refine ag_box (pv a0_0 a0_1 a0_2 a0_3) gb1 hgb1 rfl _ rfl rfl ?_; intro w58 hb_ hB_ hs_; have GEb1 : Hid (w.heap.size ≤ gb1) := hid (by have := HL.out.size; omega); replace HL := hid (HL.out.trans (hb_.mono GEb1.out)); have BKb1 := hid hB_; clear hb_ hB_ hs_ hgb1)
       | ((with_reducible refine gate_d (N := 3) rfl ?_); refine ag_fix (.pointer (some ⟨gb1, 66, none⟩)) (ex_field 46 3 (.pointer (some ⟨gb1, 0, none⟩)) (.pointer (some ⟨gb1, 66, none⟩)) (fa46_3_0 gb1) _ rfl rfl) rfl ?_)
       | ((with_reducible refine gate_d (N := 4) rfl ?_); refine ag_fix (.int .i64 a0_3) (ex_get sT3 gb1 (66) (.int .i64 a0_3) ((pv a0_0 a0_1 a0_2 a0_3)) BKb1.out ((xv_cell (n := 64) LN_a0_0.out 2 66 (by omega)).trans rfl) _ rfl rfl) rfl ?_)
       | ((with_reducible refine gate_d (N := 7) rfl ?_); refine ag_fix (.pointer (some ⟨gb1, 66, none⟩)) (ex_field 46 3 (.pointer (some ⟨gb1, 0, none⟩)) (.pointer (some ⟨gb1, 66, none⟩)) (fa46_3_0 gb1) _ rfl rfl) rfl ?_)
       | ((with_reducible refine gate_d (N := 8) rfl ?_); refine ag_fix (.int .i64 a0_3) (ex_get sT3 gb1 (66) (.int .i64 a0_3) ((pv a0_0 a0_1 a0_2 a0_3)) BKb1.out ((xv_cell (n := 64) LN_a0_0.out 2 66 (by omega)).trans rfl) _ rfl rfl) rfl ?_)
       | ((with_reducible refine gate_d (N := 11) rfl ?_); refine ag_fix (.pointer (some ⟨gb1, 64, none⟩)) (ex_field 46 1 (.pointer (some ⟨gb1, 0, none⟩)) (.pointer (some ⟨gb1, 64, none⟩)) (fa46_1_0 gb1) _ rfl rfl) rfl ?_)
       | ((with_reducible refine gate_d (N := 12) rfl ?_); refine ag_fix (.int .i64 a0_1) (ex_get sT3 gb1 (64) (.int .i64 a0_1) ((pv a0_0 a0_1 a0_2 a0_3)) BKb1.out ((xv_cell (n := 64) LN_a0_0.out 0 64 (by omega)).trans rfl) _ rfl rfl) rfl ?_)
       | ((with_reducible refine gate_d (N := 49) rfl ?_); refine ag_fix (.pointer (some ⟨gb1, 64, none⟩)) (ex_field 46 1 (.pointer (some ⟨gb1, 0, none⟩)) (.pointer (some ⟨gb1, 64, none⟩)) (fa46_1_0 gb1) _ rfl rfl) rfl ?_)
       | ((with_reducible refine gate_d (N := 50) rfl ?_); refine ag_fix (.int .i64 a0_1) (ex_get sT3 gb1 (64) (.int .i64 a0_1) ((pv a0_0 a0_1 a0_2 a0_3)) BKb1.out ((xv_cell (n := 64) LN_a0_0.out 0 64 (by omega)).trans rfl) _ rfl rfl) rfl ?_)
       | ((with_reducible refine gate_d (N := 53) rfl ?_); refine ag_fix (.pointer (some ⟨gb1, 66, none⟩)) (ex_field 46 3 (.pointer (some ⟨gb1, 0, none⟩)) (.pointer (some ⟨gb1, 66, none⟩)) (fa46_3_0 gb1) _ rfl rfl) rfl ?_)
       | ((with_reducible refine gate_d (N := 54) rfl ?_); refine ag_fix (.int .i64 a0_3) (ex_get sT3 gb1 (66) (.int .i64 a0_3) ((pv a0_0 a0_1 a0_2 a0_3)) BKb1.out ((xv_cell (n := 64) LN_a0_0.out 2 66 (by omega)).trans rfl) _ rfl rfl) rfl ?_)
       | (go_at_call 77; clear k59; refine (i_alfilref01_Rank.calls k a0_3 t7 _ A39.out).mono ?_; rintro e_ w' ⟨rfl, rfl⟩))
      (try simp only [Act.put, sI, sZ, sS])
      go_ret
      exact ⟨by first | rfl | (simp; done) | (simp [*]; done), HL.out⟩
    ·
     rw [if_neg c38] at H
     have c38b0 : (a0_1 == 1) = false := beq_eq_false_iff_ne.mpr c38
     have c38b1 : (a0_1 != 1) = true := bne_iff_ne.mpr c38
     have hc38 := hid c38
     clear c38
     obtain rfl := Option.some.inj H
     clear H
     go_enter Try.func84, Try.ntmps84
     go_wp2_with (first
      | ((with_reducible refine gate_d (N := 1) rfl ?_); obtain ⟨gb1, hgb1⟩ : ∃ g_, w.heap.size = g_ := ⟨_, rfl⟩; refine ag_box (pv a0_0 a0_1 a0_2 a0_3) gb1 hgb1 rfl _ rfl rfl ?_; intro w60 hb_ hB_ hs_; have GEb1 : Hid (w.heap.size ≤ gb1) := hid (by have := HL.out.size; omega); replace HL := hid (HL.out.trans (hb_.mono GEb1.out)); have BKb1 := hid hB_; clear hb_ hB_ hs_ hgb1)
      | ((with_reducible refine gate_d (N := 3) rfl ?_); refine ag_fix (.pointer (some ⟨gb1, 66, none⟩)) (ex_field 46 3 (.pointer (some ⟨gb1, 0, none⟩)) (.pointer (some ⟨gb1, 66, none⟩)) (fa46_3_0 gb1) _ rfl rfl) rfl ?_)
      | ((with_reducible refine gate_d (N := 4) rfl ?_); refine ag_fix (.int .i64 a0_3) (ex_get sT3 gb1 (66) (.int .i64 a0_3) ((pv a0_0 a0_1 a0_2 a0_3)) BKb1.out ((xv_cell (n := 64) LN_a0_0.out 2 66 (by omega)).trans rfl) _ rfl rfl) rfl ?_)
      | ((with_reducible refine gate_d (N := 7) rfl ?_); refine ag_fix (.pointer (some ⟨gb1, 66, none⟩)) (ex_field 46 3 (.pointer (some ⟨gb1, 0, none⟩)) (.pointer (some ⟨gb1, 66, none⟩)) (fa46_3_0 gb1) _ rfl rfl) rfl ?_)
      | ((with_reducible refine gate_d (N := 8) rfl ?_); refine ag_fix (.int .i64 a0_3) (ex_get sT3 gb1 (66) (.int .i64 a0_3) ((pv a0_0 a0_1 a0_2 a0_3)) BKb1.out ((xv_cell (n := 64) LN_a0_0.out 2 66 (by omega)).trans rfl) _ rfl rfl) rfl ?_)
      | ((with_reducible refine gate_d (N := 11) rfl ?_); refine ag_fix (.pointer (some ⟨gb1, 64, none⟩)) (ex_field 46 1 (.pointer (some ⟨gb1, 0, none⟩)) (.pointer (some ⟨gb1, 64, none⟩)) (fa46_1_0 gb1) _ rfl rfl) rfl ?_)
      | ((with_reducible refine gate_d (N := 12) rfl ?_); refine ag_fix (.int .i64 a0_1) (ex_get sT3 gb1 (64) (.int .i64 a0_1) ((pv a0_0 a0_1 a0_2 a0_3)) BKb1.out ((xv_cell (n := 64) LN_a0_0.out 0 64 (by omega)).trans rfl) _ rfl rfl) rfl ?_)
      | ((with_reducible refine gate_d (N := 49) rfl ?_); refine ag_fix (.pointer (some ⟨gb1, 64, none⟩)) (ex_field 46 1 (.pointer (some ⟨gb1, 0, none⟩)) (.pointer (some ⟨gb1, 64, none⟩)) (fa46_1_0 gb1) _ rfl rfl) rfl ?_)
      | ((with_reducible refine gate_d (N := 50) rfl ?_); refine ag_fix (.int .i64 a0_1) (ex_get sT3 gb1 (64) (.int .i64 a0_1) ((pv a0_0 a0_1 a0_2 a0_3)) BKb1.out ((xv_cell (n := 64) LN_a0_0.out 0 64 (by omega)).trans rfl) _ rfl rfl) rfl ?_))
     (try simp only [Act.put, sI, sZ, sS])
     go_ret
     exact ⟨by first | rfl | (simp; done) | (simp [*]; done), HL.out⟩
def i_alfilref09_Takes.f (k : Nat) (a0_0 : List Int) (a0_1 : Int) (a0_2 : Int) (a0_3 : Int) (a1_0 : Int) (a1_1 : Int) (a1_2 : Int) : Option (Int) := if 0 ≤ a1_1 then (if a1_1 < 64 then (if (nt a0_0 a1_1.toNat 0) = 0 then ((i_alfilref09_Pawn.f a0_0 a1_0).bind fun t3 => (if t3 = true then (if a0_3 ≥ 0 then (if a1_1 = a0_3 then ((i_alfilref01_File.f k a1_1).bind fun t4 => ((i_alfilref01_File.f k a1_0).bind fun t5 => (if t4 = t5 then (some (-1)) else ((i_alfilref08_Passed.f k a0_0 a0_1 a0_2 a0_3).bind fun t6 => (some t6))))) else (some (-1))) else (some (-1))) else (some (-1)))) else (some a1_1)) else (none)) else (none)
set_option maxHeartbeats 40000000 in
set_option maxRecDepth 100000 in
theorem i_alfilref09_Takes.calls (k : Nat) (a0_0 : List Int) (a0_1 : Int) (a0_2 : Int) (a0_3 : Int) (a1_0 : Int) (a1_1 : Int) (a1_2 : Int) (hla0_0 : a0_0.length = 64) (r1 : Int) (w : World) (h : i_alfilref09_Takes.f k a0_0 a0_1 a0_2 a0_3 a1_0 a1_1 a1_2 = some r1) :
    Calls Try.prog 47 #[.agg (pv a0_0 a0_1 a0_2 a0_3), .agg #[.int .i64 a1_0, .int .i64 a1_1, .int .i64 a1_2]] w fun e w' => e = .returned (.int .i64 r1) ∧ Below w.heap.size w w' := by
 have LN_a0_0 := hid hla0_0
 clear hla0_0
 have HL := hid (Below.refl w.heap.size w)
 have H : (if 0 ≤ a1_1 then (if a1_1 < 64 then (if (nt a0_0 a1_1.toNat 0) = 0 then ((i_alfilref09_Pawn.f a0_0 a1_0).bind fun t3 => (if t3 = true then (if a0_3 ≥ 0 then (if a1_1 = a0_3 then ((i_alfilref01_File.f k a1_1).bind fun t4 => ((i_alfilref01_File.f k a1_0).bind fun t5 => (if t4 = t5 then (some (-1)) else ((i_alfilref08_Passed.f k a0_0 a0_1 a0_2 a0_3).bind fun t6 => (some t6))))) else (some (-1))) else (some (-1))) else (some (-1)))) else (some a1_1)) else (none)) else (none)) = some r1 := h
 clear h
 by_cases c7 : 0 ≤ a1_1
 ·
  rw [if_pos c7] at H
  have c7b0 : decide (0 ≤ a1_1) = true := decide_eq_true c7
  have hc7 := hid c7
  clear c7
  by_cases c8 : a1_1 < 64
  ·
   rw [if_pos c8] at H
   have c8b0 : decide (a1_1 < 64) = true := decide_eq_true c8
   have hc8 := hid c8
   clear c8
   by_cases c9 : (nt a0_0 a1_1.toNat 0) = 0
   ·
    rw [if_pos c9] at H
    have c9b0 : ((nt a0_0 a1_1.toNat 0) == 0) = true := beq_iff_eq.mpr c9
    have c9b1 : ((nt a0_0 a1_1.toNat 0) != 0) = false := bne_eq_false_iff_eq.mpr c9
    have hc9 := hid c9
    clear c9
    replace H := Option.bind_eq_some_iff.mp H
    obtain ⟨t3, A10_, H⟩ := H
    have A10 := hid A10_
    clear A10_
    cases t3 with
    | true =>
     rw [if_pos rfl] at H
     by_cases c12 : a0_3 ≥ 0
     ·
      rw [if_pos c12] at H
      have c12b0 : decide (0 ≤ a0_3) = true := decide_eq_true c12
      have hc12 := hid c12
      clear c12
      by_cases c13 : a1_1 = a0_3
      ·
       rw [if_pos c13] at H
       have c13b0 : (a1_1 == a0_3) = true := beq_iff_eq.mpr c13
       have c13b1 : (a1_1 != a0_3) = false := bne_eq_false_iff_eq.mpr c13
       have hc13 := hid c13
       clear c13
       replace H := Option.bind_eq_some_iff.mp H
       obtain ⟨t4, A14_, H⟩ := H
       have A14 := hid A14_
       clear A14_
       replace H := Option.bind_eq_some_iff.mp H
       obtain ⟨t5, A15_, H⟩ := H
       have A15 := hid A15_
       clear A15_
       by_cases c16 : t4 = t5
       ·
        rw [if_pos c16] at H
        have c16b0 : (t4 == t5) = true := beq_iff_eq.mpr c16
        have c16b1 : (t4 != t5) = false := bne_eq_false_iff_eq.mpr c16
        have hc16 := hid c16
        clear c16
        obtain rfl := Option.some.inj H
        clear H
        go_enter Try.func47, Try.ntmps47
        go_wp2_with (first
         | ((with_reducible refine gate_d (N := 2) rfl ?_); obtain ⟨gb1, hgb1⟩ : ∃ g_, w.heap.size = g_ := ⟨_, rfl⟩; refine ag_box (pv a0_0 a0_1 a0_2 a0_3) gb1 hgb1 rfl _ rfl rfl ?_; intro w17 hb_ hB_ hs_; have GEb1 : Hid (w.heap.size ≤ gb1) := hid (by have := HL.out.size; omega); replace HL := hid (HL.out.trans (hb_.mono GEb1.out)); have BKb1 := hid hB_; clear hb_ hB_ hs_ hgb1)
         | ((with_reducible refine gate_d (N := 3) rfl ?_); obtain ⟨gb2, hgb2⟩ : ∃ g_, w17.heap.size = g_ := ⟨_, rfl⟩; refine ag_box #[.int .i64 a1_0, .int .i64 a1_1, .int .i64 a1_2] gb2 hgb2 rfl _ rfl rfl ?_; intro w18 hb_ hB_ hs_; have GEb2 : Hid (w.heap.size ≤ gb2) := hid (by have := HL.out.size; omega); have NBb1_b2 : Hid (gb1 ≠ gb2) := hid (by have := BKb1.out.lt; omega); have NBb2_b1 : Hid (gb2 ≠ gb1) := hid (by have := NBb1_b2.out; omega); replace BKb1 := hid (BKb1.out.below hb_ (by rw [← hgb2]; exact BKb1.out.lt)); replace HL := hid (HL.out.trans (hb_.mono GEb2.out)); have BKb2 := hid hB_; clear hb_ hB_ hs_ hgb2)
         | ((with_reducible refine gate_d (N := 5) rfl ?_); refine ag_fix (.pointer (some ⟨gb2, 1, none⟩)) (ex_field 75 1 (.pointer (some ⟨gb2, 0, none⟩)) (.pointer (some ⟨gb2, 1, none⟩)) (fa75_1_0 gb2) _ rfl rfl) rfl ?_)
         | ((with_reducible refine gate_d (N := 6) rfl ?_); refine ag_fix (.int .i64 a1_1) (ex_get sT3 gb2 (1) (.int .i64 a1_1) (#[.int .i64 a1_0, .int .i64 a1_1, .int .i64 a1_2]) BKb2.out rfl _ rfl rfl) rfl ?_)
         | ((with_reducible refine gate_d (N := 7) rfl ?_); refine ag_fix (.pointer (some ⟨gb1, 0, none⟩)) (ex_field 46 0 (.pointer (some ⟨gb1, 0, none⟩)) (.pointer (some ⟨gb1, 0, none⟩)) (fa46_0_0 gb1) _ rfl rfl) rfl ?_)
         | ((with_reducible refine gate_d (N := 8) rfl ?_); refine ag_fix (.pointer (some ⟨gb1, a1_1.toNat, none⟩)) (ex_at 44 (.pointer (some ⟨gb1, 0, none⟩)) (.int .i64 a1_1) (.pointer (some ⟨gb1, a1_1.toNat, none⟩)) (fun w_ => (run_atv 42 uT44 sT42.size gb1 0 a1_1 hc7.out hc8.out w_).trans (by simp)) _ _ rfl rfl rfl) rfl ?_)
         | ((with_reducible refine gate_d (N := 9) rfl ?_); refine ag_fix (.int .i8 (nt a0_0 a1_1.toNat 0)) (ex_get sT42 gb1 (a1_1.toNat) (.int .i8 (nt a0_0 a1_1.toNat 0)) ((pv a0_0 a0_1 a0_2 a0_3)) BKb1.out (xv_elem 0 (by have h_ : a0_0.length = 64 := LN_a0_0.out; have h1_ := hc7.out; have h2_ := hc8.out; omega)) _ rfl rfl) rfl ?_))
        (try simp only [Act.put, sI, sZ, sS])
        have WR64 := i64_w
        have WR32 := i32_w
        refine up_regionW (by kernel_rfl) (by kernel_rfl) ?_
        refine q_do (.pointer (some ⟨gb1, 0, none⟩)) (fun w'_ hc_ => by obtain ⟨n_, hn_⟩ := hc_; exact ex_field 46 0 (.pointer (some ⟨gb1, 0, none⟩)) (.pointer (some ⟨gb1, 0, none⟩)) (fa46_0_0 gb1) _ rfl rfl) rfl rfl ?_
        intro ts_ ht_; simp only [sI, sZ, sS] at ht_; subst ht_
        refine q_do (.agg (bv a0_0)) (fun w'_ hc_ => by obtain ⟨n_, hn_⟩ := hc_; exact ex_load boardT gb1 0 (pv a0_0 a0_1 a0_2 a0_3) (bv a0_0) (by rw [hn_]; exact BKb1.out.below n_.below BKb1.out.lt) (xv_lea LN_a0_0.out) (xv_exa LN_a0_0.out) _ rfl rfl) rfl rfl ?_
        intro ts_ ht_; simp only [sI, sZ, sS] at ht_; subst ht_
        refine q_do (.pointer (some ⟨gb2, 0, none⟩)) (fun w'_ hc_ => by obtain ⟨n_, hn_⟩ := hc_; exact ex_field 75 0 (.pointer (some ⟨gb2, 0, none⟩)) (.pointer (some ⟨gb2, 0, none⟩)) (fa75_0_0 gb2) _ rfl rfl) rfl rfl ?_
        intro ts_ ht_; simp only [sI, sZ, sS] at ht_; subst ht_
        refine q_do (.int .i64 a1_0) (fun w'_ hc_ => by obtain ⟨n_, hn_⟩ := hc_; exact ex_get sT3 gb2 (0) (.int .i64 a1_0) (#[.int .i64 a1_0, .int .i64 a1_1, .int .i64 a1_2]) (by rw [hn_]; exact BKb2.out.below n_.below BKb2.out.lt) rfl _ rfl rfl) rfl rfl ?_
        intro ts_ ht_; simp only [sI, sZ, sS] at ht_; subst ht_
        refine q_call (.bool true) 83 #[.agg (bv a0_0), .int .i64 a1_0] (fun w'_ => by go_simp) (fun w'_ hc_ => (i_alfilref09_Pawn.calls a0_0 a1_0 LN_a0_0.out true _ A10.out).mono fun e_ w2_ h_ => ⟨h_.1, up_below hc_ h_.2⟩) rfl rfl ?_
        intro ts_ ht_; simp only [sI, sZ, sS] at ht_; subst ht_
        refine q_do (.bool true) (fun w'_ hc_ => ex_mv (.tmp 17) (.inl rfl) _ rfl) rfl rfl ?_
        intro ts_ ht_; simp only [sI, sZ, sS] at ht_; subst ht_
        refine q_do (.pointer (some ⟨gb1, 66, none⟩)) (fun w'_ hc_ => by obtain ⟨n_, hn_⟩ := hc_; exact ex_field 46 3 (.pointer (some ⟨gb1, 0, none⟩)) (.pointer (some ⟨gb1, 66, none⟩)) (fa46_3_0 gb1) _ rfl rfl) rfl rfl ?_
        intro ts_ ht_; simp only [sI, sZ, sS] at ht_; subst ht_
        refine q_do (.int .i64 a0_3) (fun w'_ hc_ => by obtain ⟨n_, hn_⟩ := hc_; exact ex_get sT3 gb1 (66) (.int .i64 a0_3) ((pv a0_0 a0_1 a0_2 a0_3)) (by rw [hn_]; exact BKb1.out.below n_.below BKb1.out.lt) ((xv_cell (n := 64) LN_a0_0.out 2 66 (by omega)).trans rfl) _ rfl rfl) rfl rfl ?_
        intro ts_ ht_; simp only [sI, sZ, sS] at ht_; subst ht_
        refine q_do (.bool true) (fun w'_ hc_ => by go_simp <;> (unfold wrap64; omega)) rfl rfl ?_
        intro ts_ ht_; simp only [sI, sZ, sS] at ht_; subst ht_
        refine q_do (.bool true) (fun w'_ hc_ => by go_simp <;> (unfold wrap64; omega)) rfl rfl ?_
        intro ts_ ht_; simp only [sI, sZ, sS] at ht_; subst ht_
        refine q_do (.bool true) (fun w'_ hc_ => ex_mv (.tmp 22) (.inl rfl) _ rfl) rfl rfl ?_
        intro ts_ ht_; simp only [sI, sZ, sS] at ht_; subst ht_
        refine q_do (.pointer (some ⟨gb2, 1, none⟩)) (fun w'_ hc_ => by obtain ⟨n_, hn_⟩ := hc_; exact ex_field 75 1 (.pointer (some ⟨gb2, 0, none⟩)) (.pointer (some ⟨gb2, 1, none⟩)) (fa75_1_0 gb2) _ rfl rfl) rfl rfl ?_
        intro ts_ ht_; simp only [sI, sZ, sS] at ht_; subst ht_
        refine q_do (.int .i64 a1_1) (fun w'_ hc_ => by obtain ⟨n_, hn_⟩ := hc_; exact ex_get sT3 gb2 (1) (.int .i64 a1_1) (#[.int .i64 a1_0, .int .i64 a1_1, .int .i64 a1_2]) (by rw [hn_]; exact BKb2.out.below n_.below BKb2.out.lt) rfl _ rfl rfl) rfl rfl ?_
        intro ts_ ht_; simp only [sI, sZ, sS] at ht_; subst ht_
        refine q_do (.pointer (some ⟨gb1, 66, none⟩)) (fun w'_ hc_ => by obtain ⟨n_, hn_⟩ := hc_; exact ex_field 46 3 (.pointer (some ⟨gb1, 0, none⟩)) (.pointer (some ⟨gb1, 66, none⟩)) (fa46_3_0 gb1) _ rfl rfl) rfl rfl ?_
        intro ts_ ht_; simp only [sI, sZ, sS] at ht_; subst ht_
        refine q_do (.int .i64 a0_3) (fun w'_ hc_ => by obtain ⟨n_, hn_⟩ := hc_; exact ex_get sT3 gb1 (66) (.int .i64 a0_3) ((pv a0_0 a0_1 a0_2 a0_3)) (by rw [hn_]; exact BKb1.out.below n_.below BKb1.out.lt) ((xv_cell (n := 64) LN_a0_0.out 2 66 (by omega)).trans rfl) _ rfl rfl) rfl rfl ?_
        intro ts_ ht_; simp only [sI, sZ, sS] at ht_; subst ht_
        refine q_do (.bool true) (fun w'_ hc_ => by go_simp <;> (unfold wrap64; omega)) rfl rfl ?_
        intro ts_ ht_; simp only [sI, sZ, sS] at ht_; subst ht_
        refine q_do (.bool true) (fun w'_ hc_ => by go_simp <;> (unfold wrap64; omega)) rfl rfl ?_
        intro ts_ ht_; simp only [sI, sZ, sS] at ht_; subst ht_
        refine q_do (.bool true) (fun w'_ hc_ => ex_mv (.tmp 29) (.inl rfl) _ rfl) rfl rfl ?_
        intro ts_ ht_; simp only [sI, sZ, sS] at ht_; subst ht_
        refine q_do (.pointer (some ⟨gb2, 1, none⟩)) (fun w'_ hc_ => by obtain ⟨n_, hn_⟩ := hc_; exact ex_field 75 1 (.pointer (some ⟨gb2, 0, none⟩)) (.pointer (some ⟨gb2, 1, none⟩)) (fa75_1_0 gb2) _ rfl rfl) rfl rfl ?_
        intro ts_ ht_; simp only [sI, sZ, sS] at ht_; subst ht_
        refine q_do (.int .i64 a1_1) (fun w'_ hc_ => by obtain ⟨n_, hn_⟩ := hc_; exact ex_get sT3 gb2 (1) (.int .i64 a1_1) (#[.int .i64 a1_0, .int .i64 a1_1, .int .i64 a1_2]) (by rw [hn_]; exact BKb2.out.below n_.below BKb2.out.lt) rfl _ rfl rfl) rfl rfl ?_
        intro ts_ ht_; simp only [sI, sZ, sS] at ht_; subst ht_
        refine q_call (.int .i64 t4) 76 #[.int .i64 a1_1] (fun w'_ => by go_simp) (fun w'_ hc_ => (i_alfilref01_File.calls k a1_1 t4 _ A14.out).mono fun e_ w2_ h_ => ⟨h_.1, up_same hc_ h_.2⟩) rfl rfl ?_
        intro ts_ ht_; simp only [sI, sZ, sS] at ht_; subst ht_
        refine q_do (.pointer (some ⟨gb2, 0, none⟩)) (fun w'_ hc_ => by obtain ⟨n_, hn_⟩ := hc_; exact ex_field 75 0 (.pointer (some ⟨gb2, 0, none⟩)) (.pointer (some ⟨gb2, 0, none⟩)) (fa75_0_0 gb2) _ rfl rfl) rfl rfl ?_
        intro ts_ ht_; simp only [sI, sZ, sS] at ht_; subst ht_
        refine q_do (.int .i64 a1_0) (fun w'_ hc_ => by obtain ⟨n_, hn_⟩ := hc_; exact ex_get sT3 gb2 (0) (.int .i64 a1_0) (#[.int .i64 a1_0, .int .i64 a1_1, .int .i64 a1_2]) (by rw [hn_]; exact BKb2.out.below n_.below BKb2.out.lt) rfl _ rfl rfl) rfl rfl ?_
        intro ts_ ht_; simp only [sI, sZ, sS] at ht_; subst ht_
        refine q_call (.int .i64 t5) 76 #[.int .i64 a1_0] (fun w'_ => by go_simp) (fun w'_ hc_ => (i_alfilref01_File.calls k a1_0 t5 _ A15.out).mono fun e_ w2_ h_ => ⟨h_.1, up_same hc_ h_.2⟩) rfl rfl ?_
        intro ts_ ht_; simp only [sI, sZ, sS] at ht_; subst ht_
        refine q_do (.bool false) (fun w'_ hc_ => by go_simp <;> (unfold wrap64; omega)) rfl rfl ?_
        intro ts_ ht_; simp only [sI, sZ, sS] at ht_; subst ht_
        refine q_do (.bool false) (fun w'_ hc_ => by go_simp <;> (unfold wrap64; omega)) rfl rfl ?_
        intro ts_ ht_; simp only [sI, sZ, sS] at ht_; subst ht_
        refine q_end ?_
        rintro w8_ ⟨n_, rfl⟩
        replace BKb1 := hid (BKb1.out.below n_.below BKb1.out.lt)
        replace BKb2 := hid (BKb2.out.below n_.below BKb2.out.lt)
        replace HL := hid (HL.out.trans (n_.below.mono HL.out.size))
        generalize n_.world = w19 at *
        clear n_ WR64 WR32
        go_wp2_with fail
        (try simp only [Act.put, sI, sZ, sS])
        go_ret
        exact ⟨by first | rfl | (simp; done) | (simp [*]; done), HL.out⟩
       ·
        rw [if_neg c16] at H
        have c16b0 : (t4 == t5) = false := beq_eq_false_iff_ne.mpr c16
        have c16b1 : (t4 != t5) = true := bne_iff_ne.mpr c16
        have hc16 := hid c16
        clear c16
        replace H := Option.bind_eq_some_iff.mp H
        obtain ⟨t6, A20_, H⟩ := H
        have A20 := hid A20_
        clear A20_
        obtain rfl := Option.some.inj H
        clear H
        go_enter Try.func47, Try.ntmps47
        go_wp2_with (first
         | ((with_reducible refine gate_d (N := 2) rfl ?_); obtain ⟨gb1, hgb1⟩ : ∃ g_, w.heap.size = g_ := ⟨_, rfl⟩; refine ag_box (pv a0_0 a0_1 a0_2 a0_3) gb1 hgb1 rfl _ rfl rfl ?_; intro w21 hb_ hB_ hs_; have GEb1 : Hid (w.heap.size ≤ gb1) := hid (by have := HL.out.size; omega); replace HL := hid (HL.out.trans (hb_.mono GEb1.out)); have BKb1 := hid hB_; clear hb_ hB_ hs_ hgb1)
         | ((with_reducible refine gate_d (N := 3) rfl ?_); obtain ⟨gb2, hgb2⟩ : ∃ g_, w21.heap.size = g_ := ⟨_, rfl⟩; refine ag_box #[.int .i64 a1_0, .int .i64 a1_1, .int .i64 a1_2] gb2 hgb2 rfl _ rfl rfl ?_; intro w22 hb_ hB_ hs_; have GEb2 : Hid (w.heap.size ≤ gb2) := hid (by have := HL.out.size; omega); have NBb1_b2 : Hid (gb1 ≠ gb2) := hid (by have := BKb1.out.lt; omega); have NBb2_b1 : Hid (gb2 ≠ gb1) := hid (by have := NBb1_b2.out; omega); replace BKb1 := hid (BKb1.out.below hb_ (by rw [← hgb2]; exact BKb1.out.lt)); replace HL := hid (HL.out.trans (hb_.mono GEb2.out)); have BKb2 := hid hB_; clear hb_ hB_ hs_ hgb2)
         | ((with_reducible refine gate_d (N := 5) rfl ?_); refine ag_fix (.pointer (some ⟨gb2, 1, none⟩)) (ex_field 75 1 (.pointer (some ⟨gb2, 0, none⟩)) (.pointer (some ⟨gb2, 1, none⟩)) (fa75_1_0 gb2) _ rfl rfl) rfl ?_)
         | ((with_reducible refine gate_d (N := 6) rfl ?_); refine ag_fix (.int .i64 a1_1) (ex_get sT3 gb2 (1) (.int .i64 a1_1) (#[.int .i64 a1_0, .int .i64 a1_1, .int .i64 a1_2]) BKb2.out rfl _ rfl rfl) rfl ?_)
         | ((with_reducible refine gate_d (N := 7) rfl ?_); refine ag_fix (.pointer (some ⟨gb1, 0, none⟩)) (ex_field 46 0 (.pointer (some ⟨gb1, 0, none⟩)) (.pointer (some ⟨gb1, 0, none⟩)) (fa46_0_0 gb1) _ rfl rfl) rfl ?_)
         | ((with_reducible refine gate_d (N := 8) rfl ?_); refine ag_fix (.pointer (some ⟨gb1, a1_1.toNat, none⟩)) (ex_at 44 (.pointer (some ⟨gb1, 0, none⟩)) (.int .i64 a1_1) (.pointer (some ⟨gb1, a1_1.toNat, none⟩)) (fun w_ => (run_atv 42 uT44 sT42.size gb1 0 a1_1 hc7.out hc8.out w_).trans (by simp)) _ _ rfl rfl rfl) rfl ?_)
         | ((with_reducible refine gate_d (N := 9) rfl ?_); refine ag_fix (.int .i8 (nt a0_0 a1_1.toNat 0)) (ex_get sT42 gb1 (a1_1.toNat) (.int .i8 (nt a0_0 a1_1.toNat 0)) ((pv a0_0 a0_1 a0_2 a0_3)) BKb1.out (xv_elem 0 (by have h_ : a0_0.length = 64 := LN_a0_0.out; have h1_ := hc7.out; have h2_ := hc8.out; omega)) _ rfl rfl) rfl ?_))
        (try simp only [Act.put, sI, sZ, sS])
        have WR64 := i64_w
        have WR32 := i32_w
        refine up_regionW (by kernel_rfl) (by kernel_rfl) ?_
        refine q_do (.pointer (some ⟨gb1, 0, none⟩)) (fun w'_ hc_ => by obtain ⟨n_, hn_⟩ := hc_; exact ex_field 46 0 (.pointer (some ⟨gb1, 0, none⟩)) (.pointer (some ⟨gb1, 0, none⟩)) (fa46_0_0 gb1) _ rfl rfl) rfl rfl ?_
        intro ts_ ht_; simp only [sI, sZ, sS] at ht_; subst ht_
        refine q_do (.agg (bv a0_0)) (fun w'_ hc_ => by obtain ⟨n_, hn_⟩ := hc_; exact ex_load boardT gb1 0 (pv a0_0 a0_1 a0_2 a0_3) (bv a0_0) (by rw [hn_]; exact BKb1.out.below n_.below BKb1.out.lt) (xv_lea LN_a0_0.out) (xv_exa LN_a0_0.out) _ rfl rfl) rfl rfl ?_
        intro ts_ ht_; simp only [sI, sZ, sS] at ht_; subst ht_
        refine q_do (.pointer (some ⟨gb2, 0, none⟩)) (fun w'_ hc_ => by obtain ⟨n_, hn_⟩ := hc_; exact ex_field 75 0 (.pointer (some ⟨gb2, 0, none⟩)) (.pointer (some ⟨gb2, 0, none⟩)) (fa75_0_0 gb2) _ rfl rfl) rfl rfl ?_
        intro ts_ ht_; simp only [sI, sZ, sS] at ht_; subst ht_
        refine q_do (.int .i64 a1_0) (fun w'_ hc_ => by obtain ⟨n_, hn_⟩ := hc_; exact ex_get sT3 gb2 (0) (.int .i64 a1_0) (#[.int .i64 a1_0, .int .i64 a1_1, .int .i64 a1_2]) (by rw [hn_]; exact BKb2.out.below n_.below BKb2.out.lt) rfl _ rfl rfl) rfl rfl ?_
        intro ts_ ht_; simp only [sI, sZ, sS] at ht_; subst ht_
        refine q_call (.bool true) 83 #[.agg (bv a0_0), .int .i64 a1_0] (fun w'_ => by go_simp) (fun w'_ hc_ => (i_alfilref09_Pawn.calls a0_0 a1_0 LN_a0_0.out true _ A10.out).mono fun e_ w2_ h_ => ⟨h_.1, up_below hc_ h_.2⟩) rfl rfl ?_
        intro ts_ ht_; simp only [sI, sZ, sS] at ht_; subst ht_
        refine q_do (.bool true) (fun w'_ hc_ => ex_mv (.tmp 17) (.inl rfl) _ rfl) rfl rfl ?_
        intro ts_ ht_; simp only [sI, sZ, sS] at ht_; subst ht_
        refine q_do (.pointer (some ⟨gb1, 66, none⟩)) (fun w'_ hc_ => by obtain ⟨n_, hn_⟩ := hc_; exact ex_field 46 3 (.pointer (some ⟨gb1, 0, none⟩)) (.pointer (some ⟨gb1, 66, none⟩)) (fa46_3_0 gb1) _ rfl rfl) rfl rfl ?_
        intro ts_ ht_; simp only [sI, sZ, sS] at ht_; subst ht_
        refine q_do (.int .i64 a0_3) (fun w'_ hc_ => by obtain ⟨n_, hn_⟩ := hc_; exact ex_get sT3 gb1 (66) (.int .i64 a0_3) ((pv a0_0 a0_1 a0_2 a0_3)) (by rw [hn_]; exact BKb1.out.below n_.below BKb1.out.lt) ((xv_cell (n := 64) LN_a0_0.out 2 66 (by omega)).trans rfl) _ rfl rfl) rfl rfl ?_
        intro ts_ ht_; simp only [sI, sZ, sS] at ht_; subst ht_
        refine q_do (.bool true) (fun w'_ hc_ => by go_simp <;> (unfold wrap64; omega)) rfl rfl ?_
        intro ts_ ht_; simp only [sI, sZ, sS] at ht_; subst ht_
        refine q_do (.bool true) (fun w'_ hc_ => by go_simp <;> (unfold wrap64; omega)) rfl rfl ?_
        intro ts_ ht_; simp only [sI, sZ, sS] at ht_; subst ht_
        refine q_do (.bool true) (fun w'_ hc_ => ex_mv (.tmp 22) (.inl rfl) _ rfl) rfl rfl ?_
        intro ts_ ht_; simp only [sI, sZ, sS] at ht_; subst ht_
        refine q_do (.pointer (some ⟨gb2, 1, none⟩)) (fun w'_ hc_ => by obtain ⟨n_, hn_⟩ := hc_; exact ex_field 75 1 (.pointer (some ⟨gb2, 0, none⟩)) (.pointer (some ⟨gb2, 1, none⟩)) (fa75_1_0 gb2) _ rfl rfl) rfl rfl ?_
        intro ts_ ht_; simp only [sI, sZ, sS] at ht_; subst ht_
        refine q_do (.int .i64 a1_1) (fun w'_ hc_ => by obtain ⟨n_, hn_⟩ := hc_; exact ex_get sT3 gb2 (1) (.int .i64 a1_1) (#[.int .i64 a1_0, .int .i64 a1_1, .int .i64 a1_2]) (by rw [hn_]; exact BKb2.out.below n_.below BKb2.out.lt) rfl _ rfl rfl) rfl rfl ?_
        intro ts_ ht_; simp only [sI, sZ, sS] at ht_; subst ht_
        refine q_do (.pointer (some ⟨gb1, 66, none⟩)) (fun w'_ hc_ => by obtain ⟨n_, hn_⟩ := hc_; exact ex_field 46 3 (.pointer (some ⟨gb1, 0, none⟩)) (.pointer (some ⟨gb1, 66, none⟩)) (fa46_3_0 gb1) _ rfl rfl) rfl rfl ?_
        intro ts_ ht_; simp only [sI, sZ, sS] at ht_; subst ht_
        refine q_do (.int .i64 a0_3) (fun w'_ hc_ => by obtain ⟨n_, hn_⟩ := hc_; exact ex_get sT3 gb1 (66) (.int .i64 a0_3) ((pv a0_0 a0_1 a0_2 a0_3)) (by rw [hn_]; exact BKb1.out.below n_.below BKb1.out.lt) ((xv_cell (n := 64) LN_a0_0.out 2 66 (by omega)).trans rfl) _ rfl rfl) rfl rfl ?_
        intro ts_ ht_; simp only [sI, sZ, sS] at ht_; subst ht_
        refine q_do (.bool true) (fun w'_ hc_ => by go_simp <;> (unfold wrap64; omega)) rfl rfl ?_
        intro ts_ ht_; simp only [sI, sZ, sS] at ht_; subst ht_
        refine q_do (.bool true) (fun w'_ hc_ => by go_simp <;> (unfold wrap64; omega)) rfl rfl ?_
        intro ts_ ht_; simp only [sI, sZ, sS] at ht_; subst ht_
        refine q_do (.bool true) (fun w'_ hc_ => ex_mv (.tmp 29) (.inl rfl) _ rfl) rfl rfl ?_
        intro ts_ ht_; simp only [sI, sZ, sS] at ht_; subst ht_
        refine q_do (.pointer (some ⟨gb2, 1, none⟩)) (fun w'_ hc_ => by obtain ⟨n_, hn_⟩ := hc_; exact ex_field 75 1 (.pointer (some ⟨gb2, 0, none⟩)) (.pointer (some ⟨gb2, 1, none⟩)) (fa75_1_0 gb2) _ rfl rfl) rfl rfl ?_
        intro ts_ ht_; simp only [sI, sZ, sS] at ht_; subst ht_
        refine q_do (.int .i64 a1_1) (fun w'_ hc_ => by obtain ⟨n_, hn_⟩ := hc_; exact ex_get sT3 gb2 (1) (.int .i64 a1_1) (#[.int .i64 a1_0, .int .i64 a1_1, .int .i64 a1_2]) (by rw [hn_]; exact BKb2.out.below n_.below BKb2.out.lt) rfl _ rfl rfl) rfl rfl ?_
        intro ts_ ht_; simp only [sI, sZ, sS] at ht_; subst ht_
        refine q_call (.int .i64 t4) 76 #[.int .i64 a1_1] (fun w'_ => by go_simp) (fun w'_ hc_ => (i_alfilref01_File.calls k a1_1 t4 _ A14.out).mono fun e_ w2_ h_ => ⟨h_.1, up_same hc_ h_.2⟩) rfl rfl ?_
        intro ts_ ht_; simp only [sI, sZ, sS] at ht_; subst ht_
        refine q_do (.pointer (some ⟨gb2, 0, none⟩)) (fun w'_ hc_ => by obtain ⟨n_, hn_⟩ := hc_; exact ex_field 75 0 (.pointer (some ⟨gb2, 0, none⟩)) (.pointer (some ⟨gb2, 0, none⟩)) (fa75_0_0 gb2) _ rfl rfl) rfl rfl ?_
        intro ts_ ht_; simp only [sI, sZ, sS] at ht_; subst ht_
        refine q_do (.int .i64 a1_0) (fun w'_ hc_ => by obtain ⟨n_, hn_⟩ := hc_; exact ex_get sT3 gb2 (0) (.int .i64 a1_0) (#[.int .i64 a1_0, .int .i64 a1_1, .int .i64 a1_2]) (by rw [hn_]; exact BKb2.out.below n_.below BKb2.out.lt) rfl _ rfl rfl) rfl rfl ?_
        intro ts_ ht_; simp only [sI, sZ, sS] at ht_; subst ht_
        refine q_call (.int .i64 t5) 76 #[.int .i64 a1_0] (fun w'_ => by go_simp) (fun w'_ hc_ => (i_alfilref01_File.calls k a1_0 t5 _ A15.out).mono fun e_ w2_ h_ => ⟨h_.1, up_same hc_ h_.2⟩) rfl rfl ?_
        intro ts_ ht_; simp only [sI, sZ, sS] at ht_; subst ht_
        refine q_do (.bool true) (fun w'_ hc_ => by go_simp <;> (unfold wrap64; omega)) rfl rfl ?_
        intro ts_ ht_; simp only [sI, sZ, sS] at ht_; subst ht_
        refine q_do (.bool true) (fun w'_ hc_ => by go_simp <;> (unfold wrap64; omega)) rfl rfl ?_
        intro ts_ ht_; simp only [sI, sZ, sS] at ht_; subst ht_
        refine q_end ?_
        rintro w8_ ⟨n_, rfl⟩
        replace BKb1 := hid (BKb1.out.below n_.below BKb1.out.lt)
        replace BKb2 := hid (BKb2.out.below n_.below BKb2.out.lt)
        replace HL := hid (HL.out.trans (n_.below.mono HL.out.size))
        generalize n_.world = w23 at *
        clear n_ WR64 WR32
        have k24 := True.intro
        go_wp2_with (first
         | ((with_reducible refine gate_d (N := 39) rfl ?_); refine ag_fix (.agg (pv a0_0 a0_1 a0_2 a0_3)) (ex_load posT gb1 0 (pv a0_0 a0_1 a0_2 a0_3) (pv a0_0 a0_1 a0_2 a0_3) BKb1.out (xv_le LN_a0_0.out 67 rfl) (xv_ex LN_a0_0.out 67 rfl) _ rfl rfl) rfl ?_)
         | (go_at_call 84; clear k24; refine (i_alfilref08_Passed.calls k a0_0 a0_1 a0_2 a0_3 LN_a0_0.out t6 _ A20.out).mono ?_; rintro e_ w25 ⟨rfl, hb_⟩; replace BKb1 := hid (BKb1.out.below hb_ BKb1.out.lt); replace BKb2 := hid (BKb2.out.below hb_ BKb2.out.lt); replace HL := hid (HL.out.trans (hb_.mono HL.out.size)); clear hb_))
        (try simp only [Act.put, sI, sZ, sS])
        go_ret
        exact ⟨by first | rfl | (simp; done) | (simp [*]; done), HL.out⟩
      ·
       rw [if_neg c13] at H
       have c13b0 : (a1_1 == a0_3) = false := beq_eq_false_iff_ne.mpr c13
       have c13b1 : (a1_1 != a0_3) = true := bne_iff_ne.mpr c13
       have hc13 := hid c13
       clear c13
       obtain rfl := Option.some.inj H
       clear H
       go_enter Try.func47, Try.ntmps47
       go_wp2_with (first
        | ((with_reducible refine gate_d (N := 2) rfl ?_); obtain ⟨gb1, hgb1⟩ : ∃ g_, w.heap.size = g_ := ⟨_, rfl⟩; refine ag_box (pv a0_0 a0_1 a0_2 a0_3) gb1 hgb1 rfl _ rfl rfl ?_; intro w26 hb_ hB_ hs_; have GEb1 : Hid (w.heap.size ≤ gb1) := hid (by have := HL.out.size; omega); replace HL := hid (HL.out.trans (hb_.mono GEb1.out)); have BKb1 := hid hB_; clear hb_ hB_ hs_ hgb1)
        | ((with_reducible refine gate_d (N := 3) rfl ?_); obtain ⟨gb2, hgb2⟩ : ∃ g_, w26.heap.size = g_ := ⟨_, rfl⟩; refine ag_box #[.int .i64 a1_0, .int .i64 a1_1, .int .i64 a1_2] gb2 hgb2 rfl _ rfl rfl ?_; intro w27 hb_ hB_ hs_; have GEb2 : Hid (w.heap.size ≤ gb2) := hid (by have := HL.out.size; omega); have NBb1_b2 : Hid (gb1 ≠ gb2) := hid (by have := BKb1.out.lt; omega); have NBb2_b1 : Hid (gb2 ≠ gb1) := hid (by have := NBb1_b2.out; omega); replace BKb1 := hid (BKb1.out.below hb_ (by rw [← hgb2]; exact BKb1.out.lt)); replace HL := hid (HL.out.trans (hb_.mono GEb2.out)); have BKb2 := hid hB_; clear hb_ hB_ hs_ hgb2)
        | ((with_reducible refine gate_d (N := 5) rfl ?_); refine ag_fix (.pointer (some ⟨gb2, 1, none⟩)) (ex_field 75 1 (.pointer (some ⟨gb2, 0, none⟩)) (.pointer (some ⟨gb2, 1, none⟩)) (fa75_1_0 gb2) _ rfl rfl) rfl ?_)
        | ((with_reducible refine gate_d (N := 6) rfl ?_); refine ag_fix (.int .i64 a1_1) (ex_get sT3 gb2 (1) (.int .i64 a1_1) (#[.int .i64 a1_0, .int .i64 a1_1, .int .i64 a1_2]) BKb2.out rfl _ rfl rfl) rfl ?_)
        | ((with_reducible refine gate_d (N := 7) rfl ?_); refine ag_fix (.pointer (some ⟨gb1, 0, none⟩)) (ex_field 46 0 (.pointer (some ⟨gb1, 0, none⟩)) (.pointer (some ⟨gb1, 0, none⟩)) (fa46_0_0 gb1) _ rfl rfl) rfl ?_)
        | ((with_reducible refine gate_d (N := 8) rfl ?_); refine ag_fix (.pointer (some ⟨gb1, a1_1.toNat, none⟩)) (ex_at 44 (.pointer (some ⟨gb1, 0, none⟩)) (.int .i64 a1_1) (.pointer (some ⟨gb1, a1_1.toNat, none⟩)) (fun w_ => (run_atv 42 uT44 sT42.size gb1 0 a1_1 hc7.out hc8.out w_).trans (by simp)) _ _ rfl rfl rfl) rfl ?_)
        | ((with_reducible refine gate_d (N := 9) rfl ?_); refine ag_fix (.int .i8 (nt a0_0 a1_1.toNat 0)) (ex_get sT42 gb1 (a1_1.toNat) (.int .i8 (nt a0_0 a1_1.toNat 0)) ((pv a0_0 a0_1 a0_2 a0_3)) BKb1.out (xv_elem 0 (by have h_ : a0_0.length = 64 := LN_a0_0.out; have h1_ := hc7.out; have h2_ := hc8.out; omega)) _ rfl rfl) rfl ?_))
       (try simp only [Act.put, sI, sZ, sS])
       have WR64 := i64_w
       have WR32 := i32_w
       refine up_regionW (by kernel_rfl) (by kernel_rfl) ?_
       refine q_do (.pointer (some ⟨gb1, 0, none⟩)) (fun w'_ hc_ => by obtain ⟨n_, hn_⟩ := hc_; exact ex_field 46 0 (.pointer (some ⟨gb1, 0, none⟩)) (.pointer (some ⟨gb1, 0, none⟩)) (fa46_0_0 gb1) _ rfl rfl) rfl rfl ?_
       intro ts_ ht_; simp only [sI, sZ, sS] at ht_; subst ht_
       refine q_do (.agg (bv a0_0)) (fun w'_ hc_ => by obtain ⟨n_, hn_⟩ := hc_; exact ex_load boardT gb1 0 (pv a0_0 a0_1 a0_2 a0_3) (bv a0_0) (by rw [hn_]; exact BKb1.out.below n_.below BKb1.out.lt) (xv_lea LN_a0_0.out) (xv_exa LN_a0_0.out) _ rfl rfl) rfl rfl ?_
       intro ts_ ht_; simp only [sI, sZ, sS] at ht_; subst ht_
       refine q_do (.pointer (some ⟨gb2, 0, none⟩)) (fun w'_ hc_ => by obtain ⟨n_, hn_⟩ := hc_; exact ex_field 75 0 (.pointer (some ⟨gb2, 0, none⟩)) (.pointer (some ⟨gb2, 0, none⟩)) (fa75_0_0 gb2) _ rfl rfl) rfl rfl ?_
       intro ts_ ht_; simp only [sI, sZ, sS] at ht_; subst ht_
       refine q_do (.int .i64 a1_0) (fun w'_ hc_ => by obtain ⟨n_, hn_⟩ := hc_; exact ex_get sT3 gb2 (0) (.int .i64 a1_0) (#[.int .i64 a1_0, .int .i64 a1_1, .int .i64 a1_2]) (by rw [hn_]; exact BKb2.out.below n_.below BKb2.out.lt) rfl _ rfl rfl) rfl rfl ?_
       intro ts_ ht_; simp only [sI, sZ, sS] at ht_; subst ht_
       refine q_call (.bool true) 83 #[.agg (bv a0_0), .int .i64 a1_0] (fun w'_ => by go_simp) (fun w'_ hc_ => (i_alfilref09_Pawn.calls a0_0 a1_0 LN_a0_0.out true _ A10.out).mono fun e_ w2_ h_ => ⟨h_.1, up_below hc_ h_.2⟩) rfl rfl ?_
       intro ts_ ht_; simp only [sI, sZ, sS] at ht_; subst ht_
       refine q_do (.bool true) (fun w'_ hc_ => ex_mv (.tmp 17) (.inl rfl) _ rfl) rfl rfl ?_
       intro ts_ ht_; simp only [sI, sZ, sS] at ht_; subst ht_
       refine q_do (.pointer (some ⟨gb1, 66, none⟩)) (fun w'_ hc_ => by obtain ⟨n_, hn_⟩ := hc_; exact ex_field 46 3 (.pointer (some ⟨gb1, 0, none⟩)) (.pointer (some ⟨gb1, 66, none⟩)) (fa46_3_0 gb1) _ rfl rfl) rfl rfl ?_
       intro ts_ ht_; simp only [sI, sZ, sS] at ht_; subst ht_
       refine q_do (.int .i64 a0_3) (fun w'_ hc_ => by obtain ⟨n_, hn_⟩ := hc_; exact ex_get sT3 gb1 (66) (.int .i64 a0_3) ((pv a0_0 a0_1 a0_2 a0_3)) (by rw [hn_]; exact BKb1.out.below n_.below BKb1.out.lt) ((xv_cell (n := 64) LN_a0_0.out 2 66 (by omega)).trans rfl) _ rfl rfl) rfl rfl ?_
       intro ts_ ht_; simp only [sI, sZ, sS] at ht_; subst ht_
       refine q_do (.bool true) (fun w'_ hc_ => by go_simp <;> (unfold wrap64; omega)) rfl rfl ?_
       intro ts_ ht_; simp only [sI, sZ, sS] at ht_; subst ht_
       refine q_do (.bool true) (fun w'_ hc_ => by go_simp <;> (unfold wrap64; omega)) rfl rfl ?_
       intro ts_ ht_; simp only [sI, sZ, sS] at ht_; subst ht_
       refine q_do (.bool true) (fun w'_ hc_ => ex_mv (.tmp 22) (.inl rfl) _ rfl) rfl rfl ?_
       intro ts_ ht_; simp only [sI, sZ, sS] at ht_; subst ht_
       refine q_do (.pointer (some ⟨gb2, 1, none⟩)) (fun w'_ hc_ => by obtain ⟨n_, hn_⟩ := hc_; exact ex_field 75 1 (.pointer (some ⟨gb2, 0, none⟩)) (.pointer (some ⟨gb2, 1, none⟩)) (fa75_1_0 gb2) _ rfl rfl) rfl rfl ?_
       intro ts_ ht_; simp only [sI, sZ, sS] at ht_; subst ht_
       refine q_do (.int .i64 a1_1) (fun w'_ hc_ => by obtain ⟨n_, hn_⟩ := hc_; exact ex_get sT3 gb2 (1) (.int .i64 a1_1) (#[.int .i64 a1_0, .int .i64 a1_1, .int .i64 a1_2]) (by rw [hn_]; exact BKb2.out.below n_.below BKb2.out.lt) rfl _ rfl rfl) rfl rfl ?_
       intro ts_ ht_; simp only [sI, sZ, sS] at ht_; subst ht_
       refine q_do (.pointer (some ⟨gb1, 66, none⟩)) (fun w'_ hc_ => by obtain ⟨n_, hn_⟩ := hc_; exact ex_field 46 3 (.pointer (some ⟨gb1, 0, none⟩)) (.pointer (some ⟨gb1, 66, none⟩)) (fa46_3_0 gb1) _ rfl rfl) rfl rfl ?_
       intro ts_ ht_; simp only [sI, sZ, sS] at ht_; subst ht_
       refine q_do (.int .i64 a0_3) (fun w'_ hc_ => by obtain ⟨n_, hn_⟩ := hc_; exact ex_get sT3 gb1 (66) (.int .i64 a0_3) ((pv a0_0 a0_1 a0_2 a0_3)) (by rw [hn_]; exact BKb1.out.below n_.below BKb1.out.lt) ((xv_cell (n := 64) LN_a0_0.out 2 66 (by omega)).trans rfl) _ rfl rfl) rfl rfl ?_
       intro ts_ ht_; simp only [sI, sZ, sS] at ht_; subst ht_
       refine q_do (.bool false) (fun w'_ hc_ => by go_simp <;> (unfold wrap64; omega)) rfl rfl ?_
       intro ts_ ht_; simp only [sI, sZ, sS] at ht_; subst ht_
       refine q_do (.bool false) (fun w'_ hc_ => by go_simp <;> (unfold wrap64; omega)) rfl rfl ?_
       intro ts_ ht_; simp only [sI, sZ, sS] at ht_; subst ht_
       refine q_do (.bool false) (fun w'_ hc_ => ex_mv (.tmp 29) (.inl rfl) _ rfl) rfl rfl ?_
       intro ts_ ht_; simp only [sI, sZ, sS] at ht_; subst ht_
       refine q_not 17 false rfl rfl rfl ?_
       intro ts_ ht_; simp only [sI, sZ, sS] at ht_; subst ht_
       refine q_not 17 false rfl rfl rfl ?_
       intro ts_ ht_; simp only [sI, sZ, sS] at ht_; subst ht_
       refine q_not 17 false rfl rfl rfl ?_
       intro ts_ ht_; simp only [sI, sZ, sS] at ht_; subst ht_
       refine q_not 17 false rfl rfl rfl ?_
       intro ts_ ht_; simp only [sI, sZ, sS] at ht_; subst ht_
       refine q_not 17 false rfl rfl rfl ?_
       intro ts_ ht_; simp only [sI, sZ, sS] at ht_; subst ht_
       refine q_not 17 false rfl rfl rfl ?_
       intro ts_ ht_; simp only [sI, sZ, sS] at ht_; subst ht_
       refine q_not 17 false rfl rfl rfl ?_
       intro ts_ ht_; simp only [sI, sZ, sS] at ht_; subst ht_
       refine q_do (.bool false) (fun w'_ hc_ => by go_simp <;> (unfold wrap64; omega)) rfl rfl ?_
       intro ts_ ht_; simp only [sI, sZ, sS] at ht_; subst ht_
       refine q_end ?_
       rintro w8_ ⟨n_, rfl⟩
       replace BKb1 := hid (BKb1.out.below n_.below BKb1.out.lt)
       replace BKb2 := hid (BKb2.out.below n_.below BKb2.out.lt)
       replace HL := hid (HL.out.trans (n_.below.mono HL.out.size))
       generalize n_.world = w28 at *
       clear n_ WR64 WR32
       go_wp2_with fail
       (try simp only [Act.put, sI, sZ, sS])
       go_ret
       exact ⟨by first | rfl | (simp; done) | (simp [*]; done), HL.out⟩
     ·
      rw [if_neg c12] at H
      have c12b0 : decide (0 ≤ a0_3) = false := decide_eq_false c12
      have hc12 := hid c12
      clear c12
      obtain rfl := Option.some.inj H
      clear H
      go_enter Try.func47, Try.ntmps47
      go_wp2_with (first
       | ((with_reducible refine gate_d (N := 2) rfl ?_); obtain ⟨gb1, hgb1⟩ : ∃ g_, w.heap.size = g_ := ⟨_, rfl⟩; refine ag_box (pv a0_0 a0_1 a0_2 a0_3) gb1 hgb1 rfl _ rfl rfl ?_; intro w29 hb_ hB_ hs_; have GEb1 : Hid (w.heap.size ≤ gb1) := hid (by have := HL.out.size; omega); replace HL := hid (HL.out.trans (hb_.mono GEb1.out)); have BKb1 := hid hB_; clear hb_ hB_ hs_ hgb1)
       | ((with_reducible refine gate_d (N := 3) rfl ?_); obtain ⟨gb2, hgb2⟩ : ∃ g_, w29.heap.size = g_ := ⟨_, rfl⟩; refine ag_box #[.int .i64 a1_0, .int .i64 a1_1, .int .i64 a1_2] gb2 hgb2 rfl _ rfl rfl ?_; intro w30 hb_ hB_ hs_; have GEb2 : Hid (w.heap.size ≤ gb2) := hid (by have := HL.out.size; omega); have NBb1_b2 : Hid (gb1 ≠ gb2) := hid (by have := BKb1.out.lt; omega); have NBb2_b1 : Hid (gb2 ≠ gb1) := hid (by have := NBb1_b2.out; omega); replace BKb1 := hid (BKb1.out.below hb_ (by rw [← hgb2]; exact BKb1.out.lt)); replace HL := hid (HL.out.trans (hb_.mono GEb2.out)); have BKb2 := hid hB_; clear hb_ hB_ hs_ hgb2)
       | ((with_reducible refine gate_d (N := 5) rfl ?_); refine ag_fix (.pointer (some ⟨gb2, 1, none⟩)) (ex_field 75 1 (.pointer (some ⟨gb2, 0, none⟩)) (.pointer (some ⟨gb2, 1, none⟩)) (fa75_1_0 gb2) _ rfl rfl) rfl ?_)
       | ((with_reducible refine gate_d (N := 6) rfl ?_); refine ag_fix (.int .i64 a1_1) (ex_get sT3 gb2 (1) (.int .i64 a1_1) (#[.int .i64 a1_0, .int .i64 a1_1, .int .i64 a1_2]) BKb2.out rfl _ rfl rfl) rfl ?_)
       | ((with_reducible refine gate_d (N := 7) rfl ?_); refine ag_fix (.pointer (some ⟨gb1, 0, none⟩)) (ex_field 46 0 (.pointer (some ⟨gb1, 0, none⟩)) (.pointer (some ⟨gb1, 0, none⟩)) (fa46_0_0 gb1) _ rfl rfl) rfl ?_)
       | ((with_reducible refine gate_d (N := 8) rfl ?_); refine ag_fix (.pointer (some ⟨gb1, a1_1.toNat, none⟩)) (ex_at 44 (.pointer (some ⟨gb1, 0, none⟩)) (.int .i64 a1_1) (.pointer (some ⟨gb1, a1_1.toNat, none⟩)) (fun w_ => (run_atv 42 uT44 sT42.size gb1 0 a1_1 hc7.out hc8.out w_).trans (by simp)) _ _ rfl rfl rfl) rfl ?_)
       | ((with_reducible refine gate_d (N := 9) rfl ?_); refine ag_fix (.int .i8 (nt a0_0 a1_1.toNat 0)) (ex_get sT42 gb1 (a1_1.toNat) (.int .i8 (nt a0_0 a1_1.toNat 0)) ((pv a0_0 a0_1 a0_2 a0_3)) BKb1.out (xv_elem 0 (by have h_ : a0_0.length = 64 := LN_a0_0.out; have h1_ := hc7.out; have h2_ := hc8.out; omega)) _ rfl rfl) rfl ?_))
      (try simp only [Act.put, sI, sZ, sS])
      have WR64 := i64_w
      have WR32 := i32_w
      refine up_regionW (by kernel_rfl) (by kernel_rfl) ?_
      refine q_do (.pointer (some ⟨gb1, 0, none⟩)) (fun w'_ hc_ => by obtain ⟨n_, hn_⟩ := hc_; exact ex_field 46 0 (.pointer (some ⟨gb1, 0, none⟩)) (.pointer (some ⟨gb1, 0, none⟩)) (fa46_0_0 gb1) _ rfl rfl) rfl rfl ?_
      intro ts_ ht_; simp only [sI, sZ, sS] at ht_; subst ht_
      refine q_do (.agg (bv a0_0)) (fun w'_ hc_ => by obtain ⟨n_, hn_⟩ := hc_; exact ex_load boardT gb1 0 (pv a0_0 a0_1 a0_2 a0_3) (bv a0_0) (by rw [hn_]; exact BKb1.out.below n_.below BKb1.out.lt) (xv_lea LN_a0_0.out) (xv_exa LN_a0_0.out) _ rfl rfl) rfl rfl ?_
      intro ts_ ht_; simp only [sI, sZ, sS] at ht_; subst ht_
      refine q_do (.pointer (some ⟨gb2, 0, none⟩)) (fun w'_ hc_ => by obtain ⟨n_, hn_⟩ := hc_; exact ex_field 75 0 (.pointer (some ⟨gb2, 0, none⟩)) (.pointer (some ⟨gb2, 0, none⟩)) (fa75_0_0 gb2) _ rfl rfl) rfl rfl ?_
      intro ts_ ht_; simp only [sI, sZ, sS] at ht_; subst ht_
      refine q_do (.int .i64 a1_0) (fun w'_ hc_ => by obtain ⟨n_, hn_⟩ := hc_; exact ex_get sT3 gb2 (0) (.int .i64 a1_0) (#[.int .i64 a1_0, .int .i64 a1_1, .int .i64 a1_2]) (by rw [hn_]; exact BKb2.out.below n_.below BKb2.out.lt) rfl _ rfl rfl) rfl rfl ?_
      intro ts_ ht_; simp only [sI, sZ, sS] at ht_; subst ht_
      refine q_call (.bool true) 83 #[.agg (bv a0_0), .int .i64 a1_0] (fun w'_ => by go_simp) (fun w'_ hc_ => (i_alfilref09_Pawn.calls a0_0 a1_0 LN_a0_0.out true _ A10.out).mono fun e_ w2_ h_ => ⟨h_.1, up_below hc_ h_.2⟩) rfl rfl ?_
      intro ts_ ht_; simp only [sI, sZ, sS] at ht_; subst ht_
      refine q_do (.bool true) (fun w'_ hc_ => ex_mv (.tmp 17) (.inl rfl) _ rfl) rfl rfl ?_
      intro ts_ ht_; simp only [sI, sZ, sS] at ht_; subst ht_
      refine q_do (.pointer (some ⟨gb1, 66, none⟩)) (fun w'_ hc_ => by obtain ⟨n_, hn_⟩ := hc_; exact ex_field 46 3 (.pointer (some ⟨gb1, 0, none⟩)) (.pointer (some ⟨gb1, 66, none⟩)) (fa46_3_0 gb1) _ rfl rfl) rfl rfl ?_
      intro ts_ ht_; simp only [sI, sZ, sS] at ht_; subst ht_
      refine q_do (.int .i64 a0_3) (fun w'_ hc_ => by obtain ⟨n_, hn_⟩ := hc_; exact ex_get sT3 gb1 (66) (.int .i64 a0_3) ((pv a0_0 a0_1 a0_2 a0_3)) (by rw [hn_]; exact BKb1.out.below n_.below BKb1.out.lt) ((xv_cell (n := 64) LN_a0_0.out 2 66 (by omega)).trans rfl) _ rfl rfl) rfl rfl ?_
      intro ts_ ht_; simp only [sI, sZ, sS] at ht_; subst ht_
      refine q_do (.bool false) (fun w'_ hc_ => by go_simp <;> (unfold wrap64; omega)) rfl rfl ?_
      intro ts_ ht_; simp only [sI, sZ, sS] at ht_; subst ht_
      refine q_do (.bool false) (fun w'_ hc_ => by go_simp <;> (unfold wrap64; omega)) rfl rfl ?_
      intro ts_ ht_; simp only [sI, sZ, sS] at ht_; subst ht_
      refine q_do (.bool false) (fun w'_ hc_ => ex_mv (.tmp 22) (.inl rfl) _ rfl) rfl rfl ?_
      intro ts_ ht_; simp only [sI, sZ, sS] at ht_; subst ht_
      refine q_not 10 false rfl rfl rfl ?_
      intro ts_ ht_; simp only [sI, sZ, sS] at ht_; subst ht_
      refine q_not 10 false rfl rfl rfl ?_
      intro ts_ ht_; simp only [sI, sZ, sS] at ht_; subst ht_
      refine q_not 10 false rfl rfl rfl ?_
      intro ts_ ht_; simp only [sI, sZ, sS] at ht_; subst ht_
      refine q_not 10 false rfl rfl rfl ?_
      intro ts_ ht_; simp only [sI, sZ, sS] at ht_; subst ht_
      refine q_not 10 false rfl rfl rfl ?_
      intro ts_ ht_; simp only [sI, sZ, sS] at ht_; subst ht_
      refine q_do (.bool false) (fun w'_ hc_ => by go_simp <;> (unfold wrap64; omega)) rfl rfl ?_
      intro ts_ ht_; simp only [sI, sZ, sS] at ht_; subst ht_
      refine q_do (.bool false) (fun w'_ hc_ => ex_mv (.tmp 29) (.inl rfl) _ rfl) rfl rfl ?_
      intro ts_ ht_; simp only [sI, sZ, sS] at ht_; subst ht_
      refine q_not 17 false rfl rfl rfl ?_
      intro ts_ ht_; simp only [sI, sZ, sS] at ht_; subst ht_
      refine q_not 17 false rfl rfl rfl ?_
      intro ts_ ht_; simp only [sI, sZ, sS] at ht_; subst ht_
      refine q_not 17 false rfl rfl rfl ?_
      intro ts_ ht_; simp only [sI, sZ, sS] at ht_; subst ht_
      refine q_not 17 false rfl rfl rfl ?_
      intro ts_ ht_; simp only [sI, sZ, sS] at ht_; subst ht_
      refine q_not 17 false rfl rfl rfl ?_
      intro ts_ ht_; simp only [sI, sZ, sS] at ht_; subst ht_
      refine q_not 17 false rfl rfl rfl ?_
      intro ts_ ht_; simp only [sI, sZ, sS] at ht_; subst ht_
      refine q_not 17 false rfl rfl rfl ?_
      intro ts_ ht_; simp only [sI, sZ, sS] at ht_; subst ht_
      refine q_do (.bool false) (fun w'_ hc_ => by go_simp <;> (unfold wrap64; omega)) rfl rfl ?_
      intro ts_ ht_; simp only [sI, sZ, sS] at ht_; subst ht_
      refine q_end ?_
      rintro w8_ ⟨n_, rfl⟩
      replace BKb1 := hid (BKb1.out.below n_.below BKb1.out.lt)
      replace BKb2 := hid (BKb2.out.below n_.below BKb2.out.lt)
      replace HL := hid (HL.out.trans (n_.below.mono HL.out.size))
      generalize n_.world = w31 at *
      clear n_ WR64 WR32
      go_wp2_with fail
      (try simp only [Act.put, sI, sZ, sS])
      go_ret
      exact ⟨by first | rfl | (simp; done) | (simp [*]; done), HL.out⟩
    | false =>
     rw [if_neg (show ¬ (false = true) by decide)] at H
     obtain rfl := Option.some.inj H
     clear H
     go_enter Try.func47, Try.ntmps47
     go_wp2_with (first
      | ((with_reducible refine gate_d (N := 2) rfl ?_); obtain ⟨gb1, hgb1⟩ : ∃ g_, w.heap.size = g_ := ⟨_, rfl⟩; refine ag_box (pv a0_0 a0_1 a0_2 a0_3) gb1 hgb1 rfl _ rfl rfl ?_; intro w32 hb_ hB_ hs_; have GEb1 : Hid (w.heap.size ≤ gb1) := hid (by have := HL.out.size; omega); replace HL := hid (HL.out.trans (hb_.mono GEb1.out)); have BKb1 := hid hB_; clear hb_ hB_ hs_ hgb1)
      | ((with_reducible refine gate_d (N := 3) rfl ?_); obtain ⟨gb2, hgb2⟩ : ∃ g_, w32.heap.size = g_ := ⟨_, rfl⟩; refine ag_box #[.int .i64 a1_0, .int .i64 a1_1, .int .i64 a1_2] gb2 hgb2 rfl _ rfl rfl ?_; intro w33 hb_ hB_ hs_; have GEb2 : Hid (w.heap.size ≤ gb2) := hid (by have := HL.out.size; omega); have NBb1_b2 : Hid (gb1 ≠ gb2) := hid (by have := BKb1.out.lt; omega); have NBb2_b1 : Hid (gb2 ≠ gb1) := hid (by have := NBb1_b2.out; omega); replace BKb1 := hid (BKb1.out.below hb_ (by rw [← hgb2]; exact BKb1.out.lt)); replace HL := hid (HL.out.trans (hb_.mono GEb2.out)); have BKb2 := hid hB_; clear hb_ hB_ hs_ hgb2)
      | ((with_reducible refine gate_d (N := 5) rfl ?_); refine ag_fix (.pointer (some ⟨gb2, 1, none⟩)) (ex_field 75 1 (.pointer (some ⟨gb2, 0, none⟩)) (.pointer (some ⟨gb2, 1, none⟩)) (fa75_1_0 gb2) _ rfl rfl) rfl ?_)
      | ((with_reducible refine gate_d (N := 6) rfl ?_); refine ag_fix (.int .i64 a1_1) (ex_get sT3 gb2 (1) (.int .i64 a1_1) (#[.int .i64 a1_0, .int .i64 a1_1, .int .i64 a1_2]) BKb2.out rfl _ rfl rfl) rfl ?_)
      | ((with_reducible refine gate_d (N := 7) rfl ?_); refine ag_fix (.pointer (some ⟨gb1, 0, none⟩)) (ex_field 46 0 (.pointer (some ⟨gb1, 0, none⟩)) (.pointer (some ⟨gb1, 0, none⟩)) (fa46_0_0 gb1) _ rfl rfl) rfl ?_)
      | ((with_reducible refine gate_d (N := 8) rfl ?_); refine ag_fix (.pointer (some ⟨gb1, a1_1.toNat, none⟩)) (ex_at 44 (.pointer (some ⟨gb1, 0, none⟩)) (.int .i64 a1_1) (.pointer (some ⟨gb1, a1_1.toNat, none⟩)) (fun w_ => (run_atv 42 uT44 sT42.size gb1 0 a1_1 hc7.out hc8.out w_).trans (by simp)) _ _ rfl rfl rfl) rfl ?_)
      | ((with_reducible refine gate_d (N := 9) rfl ?_); refine ag_fix (.int .i8 (nt a0_0 a1_1.toNat 0)) (ex_get sT42 gb1 (a1_1.toNat) (.int .i8 (nt a0_0 a1_1.toNat 0)) ((pv a0_0 a0_1 a0_2 a0_3)) BKb1.out (xv_elem 0 (by have h_ : a0_0.length = 64 := LN_a0_0.out; have h1_ := hc7.out; have h2_ := hc8.out; omega)) _ rfl rfl) rfl ?_))
     (try simp only [Act.put, sI, sZ, sS])
     have WR64 := i64_w
     have WR32 := i32_w
     refine up_regionW (by kernel_rfl) (by kernel_rfl) ?_
     refine q_do (.pointer (some ⟨gb1, 0, none⟩)) (fun w'_ hc_ => by obtain ⟨n_, hn_⟩ := hc_; exact ex_field 46 0 (.pointer (some ⟨gb1, 0, none⟩)) (.pointer (some ⟨gb1, 0, none⟩)) (fa46_0_0 gb1) _ rfl rfl) rfl rfl ?_
     intro ts_ ht_; simp only [sI, sZ, sS] at ht_; subst ht_
     refine q_do (.agg (bv a0_0)) (fun w'_ hc_ => by obtain ⟨n_, hn_⟩ := hc_; exact ex_load boardT gb1 0 (pv a0_0 a0_1 a0_2 a0_3) (bv a0_0) (by rw [hn_]; exact BKb1.out.below n_.below BKb1.out.lt) (xv_lea LN_a0_0.out) (xv_exa LN_a0_0.out) _ rfl rfl) rfl rfl ?_
     intro ts_ ht_; simp only [sI, sZ, sS] at ht_; subst ht_
     refine q_do (.pointer (some ⟨gb2, 0, none⟩)) (fun w'_ hc_ => by obtain ⟨n_, hn_⟩ := hc_; exact ex_field 75 0 (.pointer (some ⟨gb2, 0, none⟩)) (.pointer (some ⟨gb2, 0, none⟩)) (fa75_0_0 gb2) _ rfl rfl) rfl rfl ?_
     intro ts_ ht_; simp only [sI, sZ, sS] at ht_; subst ht_
     refine q_do (.int .i64 a1_0) (fun w'_ hc_ => by obtain ⟨n_, hn_⟩ := hc_; exact ex_get sT3 gb2 (0) (.int .i64 a1_0) (#[.int .i64 a1_0, .int .i64 a1_1, .int .i64 a1_2]) (by rw [hn_]; exact BKb2.out.below n_.below BKb2.out.lt) rfl _ rfl rfl) rfl rfl ?_
     intro ts_ ht_; simp only [sI, sZ, sS] at ht_; subst ht_
     refine q_call (.bool false) 83 #[.agg (bv a0_0), .int .i64 a1_0] (fun w'_ => by go_simp) (fun w'_ hc_ => (i_alfilref09_Pawn.calls a0_0 a1_0 LN_a0_0.out false _ A10.out).mono fun e_ w2_ h_ => ⟨h_.1, up_below hc_ h_.2⟩) rfl rfl ?_
     intro ts_ ht_; simp only [sI, sZ, sS] at ht_; subst ht_
     refine q_do (.bool false) (fun w'_ hc_ => ex_mv (.tmp 17) (.inl rfl) _ rfl) rfl rfl ?_
     intro ts_ ht_; simp only [sI, sZ, sS] at ht_; subst ht_
     refine q_not 5 false rfl rfl rfl ?_
     intro ts_ ht_; simp only [sI, sZ, sS] at ht_; subst ht_
     refine q_not 5 false rfl rfl rfl ?_
     intro ts_ ht_; simp only [sI, sZ, sS] at ht_; subst ht_
     refine q_not 5 false rfl rfl rfl ?_
     intro ts_ ht_; simp only [sI, sZ, sS] at ht_; subst ht_
     refine q_do (.bool false) (fun w'_ hc_ => by go_simp <;> (unfold wrap64; omega)) rfl rfl ?_
     intro ts_ ht_; simp only [sI, sZ, sS] at ht_; subst ht_
     refine q_do (.bool false) (fun w'_ hc_ => ex_mv (.tmp 22) (.inl rfl) _ rfl) rfl rfl ?_
     intro ts_ ht_; simp only [sI, sZ, sS] at ht_; subst ht_
     refine q_not 10 false rfl rfl rfl ?_
     intro ts_ ht_; simp only [sI, sZ, sS] at ht_; subst ht_
     refine q_not 10 false rfl rfl rfl ?_
     intro ts_ ht_; simp only [sI, sZ, sS] at ht_; subst ht_
     refine q_not 10 false rfl rfl rfl ?_
     intro ts_ ht_; simp only [sI, sZ, sS] at ht_; subst ht_
     refine q_not 10 false rfl rfl rfl ?_
     intro ts_ ht_; simp only [sI, sZ, sS] at ht_; subst ht_
     refine q_not 10 false rfl rfl rfl ?_
     intro ts_ ht_; simp only [sI, sZ, sS] at ht_; subst ht_
     refine q_do (.bool false) (fun w'_ hc_ => by go_simp <;> (unfold wrap64; omega)) rfl rfl ?_
     intro ts_ ht_; simp only [sI, sZ, sS] at ht_; subst ht_
     refine q_do (.bool false) (fun w'_ hc_ => ex_mv (.tmp 29) (.inl rfl) _ rfl) rfl rfl ?_
     intro ts_ ht_; simp only [sI, sZ, sS] at ht_; subst ht_
     refine q_not 17 false rfl rfl rfl ?_
     intro ts_ ht_; simp only [sI, sZ, sS] at ht_; subst ht_
     refine q_not 17 false rfl rfl rfl ?_
     intro ts_ ht_; simp only [sI, sZ, sS] at ht_; subst ht_
     refine q_not 17 false rfl rfl rfl ?_
     intro ts_ ht_; simp only [sI, sZ, sS] at ht_; subst ht_
     refine q_not 17 false rfl rfl rfl ?_
     intro ts_ ht_; simp only [sI, sZ, sS] at ht_; subst ht_
     refine q_not 17 false rfl rfl rfl ?_
     intro ts_ ht_; simp only [sI, sZ, sS] at ht_; subst ht_
     refine q_not 17 false rfl rfl rfl ?_
     intro ts_ ht_; simp only [sI, sZ, sS] at ht_; subst ht_
     refine q_not 17 false rfl rfl rfl ?_
     intro ts_ ht_; simp only [sI, sZ, sS] at ht_; subst ht_
     refine q_do (.bool false) (fun w'_ hc_ => by go_simp <;> (unfold wrap64; omega)) rfl rfl ?_
     intro ts_ ht_; simp only [sI, sZ, sS] at ht_; subst ht_
     refine q_end ?_
     rintro w8_ ⟨n_, rfl⟩
     replace BKb1 := hid (BKb1.out.below n_.below BKb1.out.lt)
     replace BKb2 := hid (BKb2.out.below n_.below BKb2.out.lt)
     replace HL := hid (HL.out.trans (n_.below.mono HL.out.size))
     generalize n_.world = w34 at *
     clear n_ WR64 WR32
     go_wp2_with fail
     (try simp only [Act.put, sI, sZ, sS])
     go_ret
     exact ⟨by first | rfl | (simp; done) | (simp [*]; done), HL.out⟩
   ·
    rw [if_neg c9] at H
    have c9b0 : ((nt a0_0 a1_1.toNat 0) == 0) = false := beq_eq_false_iff_ne.mpr c9
    have c9b1 : ((nt a0_0 a1_1.toNat 0) != 0) = true := bne_iff_ne.mpr c9
    have hc9 := hid c9
    clear c9
    obtain rfl := Option.some.inj H
    clear H
    go_enter Try.func47, Try.ntmps47
    go_wp2_with (first
     | ((with_reducible refine gate_d (N := 2) rfl ?_); obtain ⟨gb1, hgb1⟩ : ∃ g_, w.heap.size = g_ := ⟨_, rfl⟩; refine ag_box (pv a0_0 a0_1 a0_2 a0_3) gb1 hgb1 rfl _ rfl rfl ?_; intro w35 hb_ hB_ hs_; have GEb1 : Hid (w.heap.size ≤ gb1) := hid (by have := HL.out.size; omega); replace HL := hid (HL.out.trans (hb_.mono GEb1.out)); have BKb1 := hid hB_; clear hb_ hB_ hs_ hgb1)
     | ((with_reducible refine gate_d (N := 3) rfl ?_); obtain ⟨gb2, hgb2⟩ : ∃ g_, w35.heap.size = g_ := ⟨_, rfl⟩; refine ag_box #[.int .i64 a1_0, .int .i64 a1_1, .int .i64 a1_2] gb2 hgb2 rfl _ rfl rfl ?_; intro w36 hb_ hB_ hs_; have GEb2 : Hid (w.heap.size ≤ gb2) := hid (by have := HL.out.size; omega); have NBb1_b2 : Hid (gb1 ≠ gb2) := hid (by have := BKb1.out.lt; omega); have NBb2_b1 : Hid (gb2 ≠ gb1) := hid (by have := NBb1_b2.out; omega); replace BKb1 := hid (BKb1.out.below hb_ (by rw [← hgb2]; exact BKb1.out.lt)); replace HL := hid (HL.out.trans (hb_.mono GEb2.out)); have BKb2 := hid hB_; clear hb_ hB_ hs_ hgb2)
     | ((with_reducible refine gate_d (N := 5) rfl ?_); refine ag_fix (.pointer (some ⟨gb2, 1, none⟩)) (ex_field 75 1 (.pointer (some ⟨gb2, 0, none⟩)) (.pointer (some ⟨gb2, 1, none⟩)) (fa75_1_0 gb2) _ rfl rfl) rfl ?_)
     | ((with_reducible refine gate_d (N := 6) rfl ?_); refine ag_fix (.int .i64 a1_1) (ex_get sT3 gb2 (1) (.int .i64 a1_1) (#[.int .i64 a1_0, .int .i64 a1_1, .int .i64 a1_2]) BKb2.out rfl _ rfl rfl) rfl ?_)
     | ((with_reducible refine gate_d (N := 7) rfl ?_); refine ag_fix (.pointer (some ⟨gb1, 0, none⟩)) (ex_field 46 0 (.pointer (some ⟨gb1, 0, none⟩)) (.pointer (some ⟨gb1, 0, none⟩)) (fa46_0_0 gb1) _ rfl rfl) rfl ?_)
     | ((with_reducible refine gate_d (N := 8) rfl ?_); refine ag_fix (.pointer (some ⟨gb1, a1_1.toNat, none⟩)) (ex_at 44 (.pointer (some ⟨gb1, 0, none⟩)) (.int .i64 a1_1) (.pointer (some ⟨gb1, a1_1.toNat, none⟩)) (fun w_ => (run_atv 42 uT44 sT42.size gb1 0 a1_1 hc7.out hc8.out w_).trans (by simp)) _ _ rfl rfl rfl) rfl ?_)
     | ((with_reducible refine gate_d (N := 9) rfl ?_); refine ag_fix (.int .i8 (nt a0_0 a1_1.toNat 0)) (ex_get sT42 gb1 (a1_1.toNat) (.int .i8 (nt a0_0 a1_1.toNat 0)) ((pv a0_0 a0_1 a0_2 a0_3)) BKb1.out (xv_elem 0 (by have h_ : a0_0.length = 64 := LN_a0_0.out; have h1_ := hc7.out; have h2_ := hc8.out; omega)) _ rfl rfl) rfl ?_)
     | ((with_reducible refine gate_d (N := 11) rfl ?_); refine ag_fix (.pointer (some ⟨gb2, 1, none⟩)) (ex_field 75 1 (.pointer (some ⟨gb2, 0, none⟩)) (.pointer (some ⟨gb2, 1, none⟩)) (fa75_1_0 gb2) _ rfl rfl) rfl ?_)
     | ((with_reducible refine gate_d (N := 12) rfl ?_); refine ag_fix (.int .i64 a1_1) (ex_get sT3 gb2 (1) (.int .i64 a1_1) (#[.int .i64 a1_0, .int .i64 a1_1, .int .i64 a1_2]) BKb2.out rfl _ rfl rfl) rfl ?_))
    (try simp only [Act.put, sI, sZ, sS])
    go_ret
    exact ⟨by first | rfl | (simp; done) | (simp [*]; done), HL.out⟩
  ·
   rw [if_neg c8] at H
   exact absurd H (by simp)
 ·
  rw [if_neg c7] at H
  exact absurd H (by simp)
end Go.Proofs.Ytpjocgebnodnoaa
