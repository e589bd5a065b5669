/- The walks of package stip: what a stipulation is. -/
import Derived.Test.YtabbkeliknidgaaProg
import Derived.Test.YtabbkeliknidgaaL1w
import Derived.Test.YtabbkeliknidgaaL2w
import Derived.Test.YtabbkeliknidgaaRg
namespace Go.Proofs.Ytabbkeliknidgaa
open Go.RowKit
set_option linter.unusedVariables false
set_option linter.unusedSimpArgs false
theorem fa43_0_0 (g : Nat) (w : World) : (Instr.fieldAt 43 (.pointer (some ⟨g, 0, none⟩)) 0).run Try.prog w = .ok (.pointer (some ⟨g, 0, none⟩)) w := by kernel_rfl
theorem fa43_2_0 (g : Nat) (w : World) : (Instr.fieldAt 43 (.pointer (some ⟨g, 0, none⟩)) 2).run Try.prog w = .ok (.pointer (some ⟨g, 2, none⟩)) w := by kernel_rfl
theorem fa43_1_0 (g : Nat) (w : World) : (Instr.fieldAt 43 (.pointer (some ⟨g, 0, none⟩)) 1).run Try.prog w = .ok (.pointer (some ⟨g, 1, none⟩)) w := by kernel_rfl
theorem fa43_3_0 (g : Nat) (w : World) : (Instr.fieldAt 43 (.pointer (some ⟨g, 0, none⟩)) 3).run Try.prog w = .ok (.pointer (some ⟨g, 3, none⟩)) w := by kernel_rfl
theorem sT4 : ScT Try.prog 4 := ⟨fun w => by kernel_rfl, fun w => by kernel_rfl⟩
theorem aT43_agg (w : World) : (isAgg 43).run Try.prog w = .ok true w := by kernel_rfl
theorem aT43_size (w : World) : (sizeOf 43).run Try.prog w = .ok 4 w := by kernel_rfl
theorem aT43_zero (w : World) : (zeroValue 43).run Try.prog w = .ok (.agg #[.int .i64 0, .int .i64 0, .int .i64 0, .bool false]) w := by kernel_rfl
theorem aT43 : AggT Try.prog 43 4 #[.int .i64 0, .int .i64 0, .int .i64 0, .bool false] := ⟨aT43_agg, aT43_size, aT43_zero, by first | rfl | decide⟩
/-! i_stip_right: function 50 -/
def i_stip_right.f (a0_0 : Int) (a0_1 : Int) (a0_2 : Int) (a0_3 : Bool) : Option (Bool) := if a0_0 < 1 then (some false) else (if a0_0 > 8 then (some false) else (if a0_2 > 64 then (some false) else (if a0_2 < 0 then (some false) else (if a0_0 = 8 then (if a0_1 = 0 then (if a0_3 = true then (some false) else (some (decide (a0_2 > 0)))) else (some false)) else (if a0_1 < 1 then (some false) else (if a0_1 > 2 then (some false) else (if a0_0 = 5 then (if a0_2 > 0 then (some true) else (some a0_3)) else (if a0_2 > 0 then (some (!a0_3)) else (some false)))))))))
set_option maxHeartbeats 40000000 in
set_option maxRecDepth 100000 in
theorem i_stip_right.calls (a0_0 : Int) (a0_1 : Int) (a0_2 : Int) (a0_3 : Bool) (r1 : Bool) (w : World) (h : i_stip_right.f a0_0 a0_1 a0_2 a0_3 = some r1) :
    Calls Try.prog 50 #[.agg #[.int .i64 a0_0, .int .i64 a0_1, .int .i64 a0_2, .bool a0_3]] w fun e w' => e = .returned (.bool r1) ∧ Below w.heap.size w w' := by
  have HL := hid (Below.refl w.heap.size w)
  have H : (if a0_0 < 1 then (some false) else (if a0_0 > 8 then (some false) else (if a0_2 > 64 then (some false) else (if a0_2 < 0 then (some false) else (if a0_0 = 8 then (if a0_1 = 0 then (if a0_3 = true then (some false) else (some (decide (a0_2 > 0)))) else (some false)) else (if a0_1 < 1 then (some false) else (if a0_1 > 2 then (some false) else (if a0_0 = 5 then (if a0_2 > 0 then (some true) else (some a0_3)) else (if a0_2 > 0 then (some (!a0_3)) else (some false)))))))))) = some r1 := h
  clear h
  by_cases c786 : a0_0 < 1
  · rw [if_pos c786] at H
    have c786b0 : decide (a0_0 < 1) = true := decide_eq_true c786
    have hc786 := hid c786
    clear c786
    obtain rfl := Option.some.inj H
    clear H
    go_enter Try.func50, Try.ntmps50
    go_wp2_with (first
      | ((with_reducible refine gate_d (N := 1) rfl ?_); obtain ⟨gb785, hgb785⟩ : ∃ g_, w.heap.size = g_ := ⟨_, rfl⟩; refine ag_box #[.int .i64 a0_0, .int .i64 a0_1, .int .i64 a0_2, .bool a0_3] gb785 hgb785 rfl _ rfl rfl ?_; intro w787 hb_ hB_ hs_; have GEb785 : Hid (w.heap.size ≤ gb785) := hid (by have := HL.out.size; omega); replace HL := hid (HL.out.trans (hb_.mono GEb785.out)); have BKb785 := hid hB_; clear hb_ hB_ hs_ hgb785)
      | ((with_reducible refine gate_d (N := 4) rfl ?_); refine ag_fix (.pointer (some ⟨gb785, 0, none⟩)) (ex_field 43 0 (.pointer (some ⟨gb785, 0, none⟩)) (.pointer (some ⟨gb785, 0, none⟩)) (fa43_0_0 gb785) _ rfl rfl) rfl ?_)
      | ((with_reducible refine gate_d (N := 5) rfl ?_); refine ag_fix (.int .i64 a0_0) (ex_get sT3 gb785 (0) (.int .i64 a0_0) (#[.int .i64 a0_0, .int .i64 a0_1, .int .i64 a0_2, .bool a0_3]) BKb785.out rfl _ rfl rfl) rfl ?_))
    (try simp only [Act.put, List.setIfInBounds_toArray, List.set_cons_zero, List.set_cons_succ])
    go_ret
    exact ⟨by first | rfl | (simp; done) | (simp [*]; done), HL.out⟩
  · rw [if_neg c786] at H
    have c786b0 : decide (a0_0 < 1) = false := decide_eq_false c786
    have hc786 := hid c786
    clear c786
    by_cases c788 : a0_0 > 8
    · rw [if_pos c788] at H
      have c788b0 : decide (8 < a0_0) = true := decide_eq_true c788
      have hc788 := hid c788
      clear c788
      obtain rfl := Option.some.inj H
      clear H
      go_enter Try.func50, Try.ntmps50
      go_wp2_with (first
        | ((with_reducible refine gate_d (N := 1) rfl ?_); obtain ⟨gb785, hgb785⟩ : ∃ g_, w.heap.size = g_ := ⟨_, rfl⟩; refine ag_box #[.int .i64 a0_0, .int .i64 a0_1, .int .i64 a0_2, .bool a0_3] gb785 hgb785 rfl _ rfl rfl ?_; intro w789 hb_ hB_ hs_; have GEb785 : Hid (w.heap.size ≤ gb785) := hid (by have := HL.out.size; omega); replace HL := hid (HL.out.trans (hb_.mono GEb785.out)); have BKb785 := hid hB_; clear hb_ hB_ hs_ hgb785)
        | ((with_reducible refine gate_d (N := 4) rfl ?_); refine ag_fix (.pointer (some ⟨gb785, 0, none⟩)) (ex_field 43 0 (.pointer (some ⟨gb785, 0, none⟩)) (.pointer (some ⟨gb785, 0, none⟩)) (fa43_0_0 gb785) _ rfl rfl) rfl ?_)
        | ((with_reducible refine gate_d (N := 5) rfl ?_); refine ag_fix (.int .i64 a0_0) (ex_get sT3 gb785 (0) (.int .i64 a0_0) (#[.int .i64 a0_0, .int .i64 a0_1, .int .i64 a0_2, .bool a0_3]) BKb785.out rfl _ rfl rfl) rfl ?_)
        | ((with_reducible refine gate_d (N := 8) rfl ?_); refine ag_fix (.pointer (some ⟨gb785, 0, none⟩)) (ex_field 43 0 (.pointer (some ⟨gb785, 0, none⟩)) (.pointer (some ⟨gb785, 0, none⟩)) (fa43_0_0 gb785) _ rfl rfl) rfl ?_)
        | ((with_reducible refine gate_d (N := 9) rfl ?_); refine ag_fix (.int .i64 a0_0) (ex_get sT3 gb785 (0) (.int .i64 a0_0) (#[.int .i64 a0_0, .int .i64 a0_1, .int .i64 a0_2, .bool a0_3]) BKb785.out rfl _ rfl rfl) rfl ?_))
      (try simp only [Act.put, List.setIfInBounds_toArray, List.set_cons_zero, List.set_cons_succ])
      go_ret
      exact ⟨by first | rfl | (simp; done) | (simp [*]; done), HL.out⟩
    · rw [if_neg c788] at H
      have c788b0 : decide (8 < a0_0) = false := decide_eq_false c788
      have hc788 := hid c788
      clear c788
      by_cases c790 : a0_2 > 64
      · rw [if_pos c790] at H
        have c790b0 : decide (64 < a0_2) = true := decide_eq_true c790
        have hc790 := hid c790
        clear c790
        obtain rfl := Option.some.inj H
        clear H
        go_enter Try.func50, Try.ntmps50
        go_wp2_with (first
          | ((with_reducible refine gate_d (N := 1) rfl ?_); obtain ⟨gb785, hgb785⟩ : ∃ g_, w.heap.size = g_ := ⟨_, rfl⟩; refine ag_box #[.int .i64 a0_0, .int .i64 a0_1, .int .i64 a0_2, .bool a0_3] gb785 hgb785 rfl _ rfl rfl ?_; intro w791 hb_ hB_ hs_; have GEb785 : Hid (w.heap.size ≤ gb785) := hid (by have := HL.out.size; omega); replace HL := hid (HL.out.trans (hb_.mono GEb785.out)); have BKb785 := hid hB_; clear hb_ hB_ hs_ hgb785)
          | ((with_reducible refine gate_d (N := 4) rfl ?_); refine ag_fix (.pointer (some ⟨gb785, 0, none⟩)) (ex_field 43 0 (.pointer (some ⟨gb785, 0, none⟩)) (.pointer (some ⟨gb785, 0, none⟩)) (fa43_0_0 gb785) _ rfl rfl) rfl ?_)
          | ((with_reducible refine gate_d (N := 5) rfl ?_); refine ag_fix (.int .i64 a0_0) (ex_get sT3 gb785 (0) (.int .i64 a0_0) (#[.int .i64 a0_0, .int .i64 a0_1, .int .i64 a0_2, .bool a0_3]) BKb785.out rfl _ rfl rfl) rfl ?_)
          | ((with_reducible refine gate_d (N := 8) rfl ?_); refine ag_fix (.pointer (some ⟨gb785, 0, none⟩)) (ex_field 43 0 (.pointer (some ⟨gb785, 0, none⟩)) (.pointer (some ⟨gb785, 0, none⟩)) (fa43_0_0 gb785) _ rfl rfl) rfl ?_)
          | ((with_reducible refine gate_d (N := 9) rfl ?_); refine ag_fix (.int .i64 a0_0) (ex_get sT3 gb785 (0) (.int .i64 a0_0) (#[.int .i64 a0_0, .int .i64 a0_1, .int .i64 a0_2, .bool a0_3]) BKb785.out rfl _ rfl rfl) rfl ?_)
          | ((with_reducible refine gate_d (N := 13) rfl ?_); refine ag_fix (.pointer (some ⟨gb785, 2, none⟩)) (ex_field 43 2 (.pointer (some ⟨gb785, 0, none⟩)) (.pointer (some ⟨gb785, 2, none⟩)) (fa43_2_0 gb785) _ rfl rfl) rfl ?_)
          | ((with_reducible refine gate_d (N := 14) rfl ?_); refine ag_fix (.int .i64 a0_2) (ex_get sT3 gb785 (2) (.int .i64 a0_2) (#[.int .i64 a0_0, .int .i64 a0_1, .int .i64 a0_2, .bool a0_3]) BKb785.out rfl _ rfl rfl) rfl ?_))
        (try simp only [Act.put, List.setIfInBounds_toArray, List.set_cons_zero, List.set_cons_succ])
        go_ret
        exact ⟨by first | rfl | (simp; done) | (simp [*]; done), HL.out⟩
      · rw [if_neg c790] at H
        have c790b0 : decide (64 < a0_2) = false := decide_eq_false c790
        have hc790 := hid c790
        clear c790
        by_cases c792 : a0_2 < 0
        · rw [if_pos c792] at H
          have c792b0 : decide (a0_2 < 0) = true := decide_eq_true c792
          have hc792 := hid c792
          clear c792
          obtain rfl := Option.some.inj H
          clear H
          go_enter Try.func50, Try.ntmps50
          go_wp2_with (first
            | ((with_reducible refine gate_d (N := 1) rfl ?_); obtain ⟨gb785, hgb785⟩ : ∃ g_, w.heap.size = g_ := ⟨_, rfl⟩; refine ag_box #[.int .i64 a0_0, .int .i64 a0_1, .int .i64 a0_2, .bool a0_3] gb785 hgb785 rfl _ rfl rfl ?_; intro w793 hb_ hB_ hs_; have GEb785 : Hid (w.heap.size ≤ gb785) := hid (by have := HL.out.size; omega); replace HL := hid (HL.out.trans (hb_.mono GEb785.out)); have BKb785 := hid hB_; clear hb_ hB_ hs_ hgb785)
            | ((with_reducible refine gate_d (N := 4) rfl ?_); refine ag_fix (.pointer (some ⟨gb785, 0, none⟩)) (ex_field 43 0 (.pointer (some ⟨gb785, 0, none⟩)) (.pointer (some ⟨gb785, 0, none⟩)) (fa43_0_0 gb785) _ rfl rfl) rfl ?_)
            | ((with_reducible refine gate_d (N := 5) rfl ?_); refine ag_fix (.int .i64 a0_0) (ex_get sT3 gb785 (0) (.int .i64 a0_0) (#[.int .i64 a0_0, .int .i64 a0_1, .int .i64 a0_2, .bool a0_3]) BKb785.out rfl _ rfl rfl) rfl ?_)
            | ((with_reducible refine gate_d (N := 8) rfl ?_); refine ag_fix (.pointer (some ⟨gb785, 0, none⟩)) (ex_field 43 0 (.pointer (some ⟨gb785, 0, none⟩)) (.pointer (some ⟨gb785, 0, none⟩)) (fa43_0_0 gb785) _ rfl rfl) rfl ?_)
            | ((with_reducible refine gate_d (N := 9) rfl ?_); refine ag_fix (.int .i64 a0_0) (ex_get sT3 gb785 (0) (.int .i64 a0_0) (#[.int .i64 a0_0, .int .i64 a0_1, .int .i64 a0_2, .bool a0_3]) BKb785.out rfl _ rfl rfl) rfl ?_)
            | ((with_reducible refine gate_d (N := 13) rfl ?_); refine ag_fix (.pointer (some ⟨gb785, 2, none⟩)) (ex_field 43 2 (.pointer (some ⟨gb785, 0, none⟩)) (.pointer (some ⟨gb785, 2, none⟩)) (fa43_2_0 gb785) _ rfl rfl) rfl ?_)
            | ((with_reducible refine gate_d (N := 14) rfl ?_); refine ag_fix (.int .i64 a0_2) (ex_get sT3 gb785 (2) (.int .i64 a0_2) (#[.int .i64 a0_0, .int .i64 a0_1, .int .i64 a0_2, .bool a0_3]) BKb785.out rfl _ rfl rfl) rfl ?_)
            | ((with_reducible refine gate_d (N := 18) rfl ?_); refine ag_fix (.pointer (some ⟨gb785, 2, none⟩)) (ex_field 43 2 (.pointer (some ⟨gb785, 0, none⟩)) (.pointer (some ⟨gb785, 2, none⟩)) (fa43_2_0 gb785) _ rfl rfl) rfl ?_)
            | ((with_reducible refine gate_d (N := 19) rfl ?_); refine ag_fix (.int .i64 a0_2) (ex_get sT3 gb785 (2) (.int .i64 a0_2) (#[.int .i64 a0_0, .int .i64 a0_1, .int .i64 a0_2, .bool a0_3]) BKb785.out rfl _ rfl rfl) rfl ?_))
          (try simp only [Act.put, List.setIfInBounds_toArray, List.set_cons_zero, List.set_cons_succ])
          go_ret
          exact ⟨by first | rfl | (simp; done) | (simp [*]; done), HL.out⟩
        · rw [if_neg c792] at H
          have c792b0 : decide (a0_2 < 0) = false := decide_eq_false c792
          have hc792 := hid c792
          clear c792
          by_cases c794 : a0_0 = 8
          · rw [if_pos c794] at H
            have c794b0 : (a0_0 == 8) = true := beq_iff_eq.mpr c794
            have c794b1 : (a0_0 != 8) = false := bne_eq_false_iff_eq.mpr c794
            have hc794 := hid c794
            clear c794
            by_cases c795 : a0_1 = 0
            · rw [if_pos c795] at H
              have c795b0 : (a0_1 == 0) = true := beq_iff_eq.mpr c795
              have c795b1 : (a0_1 != 0) = false := bne_eq_false_iff_eq.mpr c795
              have hc795 := hid c795
              clear c795
              cases a0_3 with
              | true =>
                rw [if_pos rfl] at H
                obtain rfl := Option.some.inj H
                clear H
                go_enter Try.func50, Try.ntmps50
                go_wp2_with (first
                  | ((with_reducible refine gate_d (N := 1) rfl ?_); obtain ⟨gb785, hgb785⟩ : ∃ g_, w.heap.size = g_ := ⟨_, rfl⟩; refine ag_box #[.int .i64 a0_0, .int .i64 a0_1, .int .i64 a0_2, .bool true] gb785 hgb785 rfl _ rfl rfl ?_; intro w797 hb_ hB_ hs_; have GEb785 : Hid (w.heap.size ≤ gb785) := hid (by have := HL.out.size; omega); replace HL := hid (HL.out.trans (hb_.mono GEb785.out)); have BKb785 := hid hB_; clear hb_ hB_ hs_ hgb785)
                  | ((with_reducible refine gate_d (N := 4) rfl ?_); refine ag_fix (.pointer (some ⟨gb785, 0, none⟩)) (ex_field 43 0 (.pointer (some ⟨gb785, 0, none⟩)) (.pointer (some ⟨gb785, 0, none⟩)) (fa43_0_0 gb785) _ rfl rfl) rfl ?_)
                  | ((with_reducible refine gate_d (N := 5) rfl ?_); refine ag_fix (.int .i64 a0_0) (ex_get sT3 gb785 (0) (.int .i64 a0_0) (#[.int .i64 a0_0, .int .i64 a0_1, .int .i64 a0_2, .bool true]) BKb785.out rfl _ rfl rfl) rfl ?_)
                  | ((with_reducible refine gate_d (N := 8) rfl ?_); refine ag_fix (.pointer (some ⟨gb785, 0, none⟩)) (ex_field 43 0 (.pointer (some ⟨gb785, 0, none⟩)) (.pointer (some ⟨gb785, 0, none⟩)) (fa43_0_0 gb785) _ rfl rfl) rfl ?_)
                  | ((with_reducible refine gate_d (N := 9) rfl ?_); refine ag_fix (.int .i64 a0_0) (ex_get sT3 gb785 (0) (.int .i64 a0_0) (#[.int .i64 a0_0, .int .i64 a0_1, .int .i64 a0_2, .bool true]) BKb785.out rfl _ rfl rfl) rfl ?_)
                  | ((with_reducible refine gate_d (N := 13) rfl ?_); refine ag_fix (.pointer (some ⟨gb785, 2, none⟩)) (ex_field 43 2 (.pointer (some ⟨gb785, 0, none⟩)) (.pointer (some ⟨gb785, 2, none⟩)) (fa43_2_0 gb785) _ rfl rfl) rfl ?_)
                  | ((with_reducible refine gate_d (N := 14) rfl ?_); refine ag_fix (.int .i64 a0_2) (ex_get sT3 gb785 (2) (.int .i64 a0_2) (#[.int .i64 a0_0, .int .i64 a0_1, .int .i64 a0_2, .bool true]) BKb785.out rfl _ rfl rfl) rfl ?_)
                  | ((with_reducible refine gate_d (N := 18) rfl ?_); refine ag_fix (.pointer (some ⟨gb785, 2, none⟩)) (ex_field 43 2 (.pointer (some ⟨gb785, 0, none⟩)) (.pointer (some ⟨gb785, 2, none⟩)) (fa43_2_0 gb785) _ rfl rfl) rfl ?_)
                  | ((with_reducible refine gate_d (N := 19) rfl ?_); refine ag_fix (.int .i64 a0_2) (ex_get sT3 gb785 (2) (.int .i64 a0_2) (#[.int .i64 a0_0, .int .i64 a0_1, .int .i64 a0_2, .bool true]) BKb785.out rfl _ rfl rfl) rfl ?_)
                  | ((with_reducible refine gate_d (N := 23) rfl ?_); refine ag_fix (.pointer (some ⟨gb785, 0, none⟩)) (ex_field 43 0 (.pointer (some ⟨gb785, 0, none⟩)) (.pointer (some ⟨gb785, 0, none⟩)) (fa43_0_0 gb785) _ rfl rfl) rfl ?_)
                  | ((with_reducible refine gate_d (N := 24) rfl ?_); refine ag_fix (.int .i64 a0_0) (ex_get sT3 gb785 (0) (.int .i64 a0_0) (#[.int .i64 a0_0, .int .i64 a0_1, .int .i64 a0_2, .bool true]) BKb785.out rfl _ rfl rfl) rfl ?_)
                  | ((with_reducible refine gate_d (N := 26) rfl ?_); refine ag_fix (.pointer (some ⟨gb785, 1, none⟩)) (ex_field 43 1 (.pointer (some ⟨gb785, 0, none⟩)) (.pointer (some ⟨gb785, 1, none⟩)) (fa43_1_0 gb785) _ rfl rfl) rfl ?_)
                  | ((with_reducible refine gate_d (N := 27) rfl ?_); refine ag_fix (.int .i64 a0_1) (ex_get sT3 gb785 (1) (.int .i64 a0_1) (#[.int .i64 a0_0, .int .i64 a0_1, .int .i64 a0_2, .bool true]) BKb785.out rfl _ rfl rfl) rfl ?_)
                  | ((with_reducible refine gate_d (N := 30) rfl ?_); refine ag_fix (.pointer (some ⟨gb785, 3, none⟩)) (ex_field 43 3 (.pointer (some ⟨gb785, 0, none⟩)) (.pointer (some ⟨gb785, 3, none⟩)) (fa43_3_0 gb785) _ rfl rfl) rfl ?_)
                  | ((with_reducible refine gate_d (N := 31) rfl ?_); refine ag_fix (.bool true) (ex_get sT4 gb785 (3) (.bool true) (#[.int .i64 a0_0, .int .i64 a0_1, .int .i64 a0_2, .bool true]) BKb785.out rfl _ rfl rfl) rfl ?_))
                (try simp only [Act.put, List.setIfInBounds_toArray, List.set_cons_zero, List.set_cons_succ])
                go_ret
                exact ⟨by first | rfl | (simp; done) | (simp [*]; done), HL.out⟩
              | false =>
                rw [if_neg (show ¬ (false = true) by decide)] at H
                obtain rfl := Option.some.inj H
                clear H
                go_enter Try.func50, Try.ntmps50
                go_wp2_with (first
                  | ((with_reducible refine gate_d (N := 1) rfl ?_); obtain ⟨gb785, hgb785⟩ : ∃ g_, w.heap.size = g_ := ⟨_, rfl⟩; refine ag_box #[.int .i64 a0_0, .int .i64 a0_1, .int .i64 a0_2, .bool false] gb785 hgb785 rfl _ rfl rfl ?_; intro w798 hb_ hB_ hs_; have GEb785 : Hid (w.heap.size ≤ gb785) := hid (by have := HL.out.size; omega); replace HL := hid (HL.out.trans (hb_.mono GEb785.out)); have BKb785 := hid hB_; clear hb_ hB_ hs_ hgb785)
                  | ((with_reducible refine gate_d (N := 4) rfl ?_); refine ag_fix (.pointer (some ⟨gb785, 0, none⟩)) (ex_field 43 0 (.pointer (some ⟨gb785, 0, none⟩)) (.pointer (some ⟨gb785, 0, none⟩)) (fa43_0_0 gb785) _ rfl rfl) rfl ?_)
                  | ((with_reducible refine gate_d (N := 5) rfl ?_); refine ag_fix (.int .i64 a0_0) (ex_get sT3 gb785 (0) (.int .i64 a0_0) (#[.int .i64 a0_0, .int .i64 a0_1, .int .i64 a0_2, .bool false]) BKb785.out rfl _ rfl rfl) rfl ?_)
                  | ((with_reducible refine gate_d (N := 8) rfl ?_); refine ag_fix (.pointer (some ⟨gb785, 0, none⟩)) (ex_field 43 0 (.pointer (some ⟨gb785, 0, none⟩)) (.pointer (some ⟨gb785, 0, none⟩)) (fa43_0_0 gb785) _ rfl rfl) rfl ?_)
                  | ((with_reducible refine gate_d (N := 9) rfl ?_); refine ag_fix (.int .i64 a0_0) (ex_get sT3 gb785 (0) (.int .i64 a0_0) (#[.int .i64 a0_0, .int .i64 a0_1, .int .i64 a0_2, .bool false]) BKb785.out rfl _ rfl rfl) rfl ?_)
                  | ((with_reducible refine gate_d (N := 13) rfl ?_); refine ag_fix (.pointer (some ⟨gb785, 2, none⟩)) (ex_field 43 2 (.pointer (some ⟨gb785, 0, none⟩)) (.pointer (some ⟨gb785, 2, none⟩)) (fa43_2_0 gb785) _ rfl rfl) rfl ?_)
                  | ((with_reducible refine gate_d (N := 14) rfl ?_); refine ag_fix (.int .i64 a0_2) (ex_get sT3 gb785 (2) (.int .i64 a0_2) (#[.int .i64 a0_0, .int .i64 a0_1, .int .i64 a0_2, .bool false]) BKb785.out rfl _ rfl rfl) rfl ?_)
                  | ((with_reducible refine gate_d (N := 18) rfl ?_); refine ag_fix (.pointer (some ⟨gb785, 2, none⟩)) (ex_field 43 2 (.pointer (some ⟨gb785, 0, none⟩)) (.pointer (some ⟨gb785, 2, none⟩)) (fa43_2_0 gb785) _ rfl rfl) rfl ?_)
                  | ((with_reducible refine gate_d (N := 19) rfl ?_); refine ag_fix (.int .i64 a0_2) (ex_get sT3 gb785 (2) (.int .i64 a0_2) (#[.int .i64 a0_0, .int .i64 a0_1, .int .i64 a0_2, .bool false]) BKb785.out rfl _ rfl rfl) rfl ?_)
                  | ((with_reducible refine gate_d (N := 23) rfl ?_); refine ag_fix (.pointer (some ⟨gb785, 0, none⟩)) (ex_field 43 0 (.pointer (some ⟨gb785, 0, none⟩)) (.pointer (some ⟨gb785, 0, none⟩)) (fa43_0_0 gb785) _ rfl rfl) rfl ?_)
                  | ((with_reducible refine gate_d (N := 24) rfl ?_); refine ag_fix (.int .i64 a0_0) (ex_get sT3 gb785 (0) (.int .i64 a0_0) (#[.int .i64 a0_0, .int .i64 a0_1, .int .i64 a0_2, .bool false]) BKb785.out rfl _ rfl rfl) rfl ?_)
                  | ((with_reducible refine gate_d (N := 26) rfl ?_); refine ag_fix (.pointer (some ⟨gb785, 1, none⟩)) (ex_field 43 1 (.pointer (some ⟨gb785, 0, none⟩)) (.pointer (some ⟨gb785, 1, none⟩)) (fa43_1_0 gb785) _ rfl rfl) rfl ?_)
                  | ((with_reducible refine gate_d (N := 27) rfl ?_); refine ag_fix (.int .i64 a0_1) (ex_get sT3 gb785 (1) (.int .i64 a0_1) (#[.int .i64 a0_0, .int .i64 a0_1, .int .i64 a0_2, .bool false]) BKb785.out rfl _ rfl rfl) rfl ?_)
                  | ((with_reducible refine gate_d (N := 30) rfl ?_); refine ag_fix (.pointer (some ⟨gb785, 3, none⟩)) (ex_field 43 3 (.pointer (some ⟨gb785, 0, none⟩)) (.pointer (some ⟨gb785, 3, none⟩)) (fa43_3_0 gb785) _ rfl rfl) rfl ?_)
                  | ((with_reducible refine gate_d (N := 31) rfl ?_); refine ag_fix (.bool false) (ex_get sT4 gb785 (3) (.bool false) (#[.int .i64 a0_0, .int .i64 a0_1, .int .i64 a0_2, .bool false]) BKb785.out rfl _ rfl rfl) rfl ?_)
                  | ((with_reducible refine gate_d (N := 35) rfl ?_); refine ag_fix (.pointer (some ⟨gb785, 2, none⟩)) (ex_field 43 2 (.pointer (some ⟨gb785, 0, none⟩)) (.pointer (some ⟨gb785, 2, none⟩)) (fa43_2_0 gb785) _ rfl rfl) rfl ?_)
                  | ((with_reducible refine gate_d (N := 36) rfl ?_); refine ag_fix (.int .i64 a0_2) (ex_get sT3 gb785 (2) (.int .i64 a0_2) (#[.int .i64 a0_0, .int .i64 a0_1, .int .i64 a0_2, .bool false]) BKb785.out rfl _ rfl rfl) rfl ?_))
                (try simp only [Act.put, List.setIfInBounds_toArray, List.set_cons_zero, List.set_cons_succ])
                go_ret
                exact ⟨by first | rfl | (simp; done) | (simp [*]; done), HL.out⟩
            · rw [if_neg c795] at H
              have c795b0 : (a0_1 == 0) = false := beq_eq_false_iff_ne.mpr c795
              have c795b1 : (a0_1 != 0) = true := bne_iff_ne.mpr c795
              have hc795 := hid c795
              clear c795
              obtain rfl := Option.some.inj H
              clear H
              go_enter Try.func50, Try.ntmps50
              go_wp2_with (first
                | ((with_reducible refine gate_d (N := 1) rfl ?_); obtain ⟨gb785, hgb785⟩ : ∃ g_, w.heap.size = g_ := ⟨_, rfl⟩; refine ag_box #[.int .i64 a0_0, .int .i64 a0_1, .int .i64 a0_2, .bool a0_3] gb785 hgb785 rfl _ rfl rfl ?_; intro w799 hb_ hB_ hs_; have GEb785 : Hid (w.heap.size ≤ gb785) := hid (by have := HL.out.size; omega); replace HL := hid (HL.out.trans (hb_.mono GEb785.out)); have BKb785 := hid hB_; clear hb_ hB_ hs_ hgb785)
                | ((with_reducible refine gate_d (N := 4) rfl ?_); refine ag_fix (.pointer (some ⟨gb785, 0, none⟩)) (ex_field 43 0 (.pointer (some ⟨gb785, 0, none⟩)) (.pointer (some ⟨gb785, 0, none⟩)) (fa43_0_0 gb785) _ rfl rfl) rfl ?_)
                | ((with_reducible refine gate_d (N := 5) rfl ?_); refine ag_fix (.int .i64 a0_0) (ex_get sT3 gb785 (0) (.int .i64 a0_0) (#[.int .i64 a0_0, .int .i64 a0_1, .int .i64 a0_2, .bool a0_3]) BKb785.out rfl _ rfl rfl) rfl ?_)
                | ((with_reducible refine gate_d (N := 8) rfl ?_); refine ag_fix (.pointer (some ⟨gb785, 0, none⟩)) (ex_field 43 0 (.pointer (some ⟨gb785, 0, none⟩)) (.pointer (some ⟨gb785, 0, none⟩)) (fa43_0_0 gb785) _ rfl rfl) rfl ?_)
                | ((with_reducible refine gate_d (N := 9) rfl ?_); refine ag_fix (.int .i64 a0_0) (ex_get sT3 gb785 (0) (.int .i64 a0_0) (#[.int .i64 a0_0, .int .i64 a0_1, .int .i64 a0_2, .bool a0_3]) BKb785.out rfl _ rfl rfl) rfl ?_)
                | ((with_reducible refine gate_d (N := 13) rfl ?_); refine ag_fix (.pointer (some ⟨gb785, 2, none⟩)) (ex_field 43 2 (.pointer (some ⟨gb785, 0, none⟩)) (.pointer (some ⟨gb785, 2, none⟩)) (fa43_2_0 gb785) _ rfl rfl) rfl ?_)
                | ((with_reducible refine gate_d (N := 14) rfl ?_); refine ag_fix (.int .i64 a0_2) (ex_get sT3 gb785 (2) (.int .i64 a0_2) (#[.int .i64 a0_0, .int .i64 a0_1, .int .i64 a0_2, .bool a0_3]) BKb785.out rfl _ rfl rfl) rfl ?_)
                | ((with_reducible refine gate_d (N := 18) rfl ?_); refine ag_fix (.pointer (some ⟨gb785, 2, none⟩)) (ex_field 43 2 (.pointer (some ⟨gb785, 0, none⟩)) (.pointer (some ⟨gb785, 2, none⟩)) (fa43_2_0 gb785) _ rfl rfl) rfl ?_)
                | ((with_reducible refine gate_d (N := 19) rfl ?_); refine ag_fix (.int .i64 a0_2) (ex_get sT3 gb785 (2) (.int .i64 a0_2) (#[.int .i64 a0_0, .int .i64 a0_1, .int .i64 a0_2, .bool a0_3]) BKb785.out rfl _ rfl rfl) rfl ?_)
                | ((with_reducible refine gate_d (N := 23) rfl ?_); refine ag_fix (.pointer (some ⟨gb785, 0, none⟩)) (ex_field 43 0 (.pointer (some ⟨gb785, 0, none⟩)) (.pointer (some ⟨gb785, 0, none⟩)) (fa43_0_0 gb785) _ rfl rfl) rfl ?_)
                | ((with_reducible refine gate_d (N := 24) rfl ?_); refine ag_fix (.int .i64 a0_0) (ex_get sT3 gb785 (0) (.int .i64 a0_0) (#[.int .i64 a0_0, .int .i64 a0_1, .int .i64 a0_2, .bool a0_3]) BKb785.out rfl _ rfl rfl) rfl ?_)
                | ((with_reducible refine gate_d (N := 26) rfl ?_); refine ag_fix (.pointer (some ⟨gb785, 1, none⟩)) (ex_field 43 1 (.pointer (some ⟨gb785, 0, none⟩)) (.pointer (some ⟨gb785, 1, none⟩)) (fa43_1_0 gb785) _ rfl rfl) rfl ?_)
                | ((with_reducible refine gate_d (N := 27) rfl ?_); refine ag_fix (.int .i64 a0_1) (ex_get sT3 gb785 (1) (.int .i64 a0_1) (#[.int .i64 a0_0, .int .i64 a0_1, .int .i64 a0_2, .bool a0_3]) BKb785.out rfl _ rfl rfl) rfl ?_))
              (try simp only [Act.put, List.setIfInBounds_toArray, List.set_cons_zero, List.set_cons_succ])
              go_ret
              exact ⟨by first | rfl | (simp; done) | (simp [*]; done), HL.out⟩
          · rw [if_neg c794] at H
            have c794b0 : (a0_0 == 8) = false := beq_eq_false_iff_ne.mpr c794
            have c794b1 : (a0_0 != 8) = true := bne_iff_ne.mpr c794
            have hc794 := hid c794
            clear c794
            by_cases c800 : a0_1 < 1
            · rw [if_pos c800] at H
              have c800b0 : decide (a0_1 < 1) = true := decide_eq_true c800
              have hc800 := hid c800
              clear c800
              obtain rfl := Option.some.inj H
              clear H
              go_enter Try.func50, Try.ntmps50
              go_wp2_with (first
                | ((with_reducible refine gate_d (N := 1) rfl ?_); obtain ⟨gb785, hgb785⟩ : ∃ g_, w.heap.size = g_ := ⟨_, rfl⟩; refine ag_box #[.int .i64 a0_0, .int .i64 a0_1, .int .i64 a0_2, .bool a0_3] gb785 hgb785 rfl _ rfl rfl ?_; intro w801 hb_ hB_ hs_; have GEb785 : Hid (w.heap.size ≤ gb785) := hid (by have := HL.out.size; omega); replace HL := hid (HL.out.trans (hb_.mono GEb785.out)); have BKb785 := hid hB_; clear hb_ hB_ hs_ hgb785)
                | ((with_reducible refine gate_d (N := 4) rfl ?_); refine ag_fix (.pointer (some ⟨gb785, 0, none⟩)) (ex_field 43 0 (.pointer (some ⟨gb785, 0, none⟩)) (.pointer (some ⟨gb785, 0, none⟩)) (fa43_0_0 gb785) _ rfl rfl) rfl ?_)
                | ((with_reducible refine gate_d (N := 5) rfl ?_); refine ag_fix (.int .i64 a0_0) (ex_get sT3 gb785 (0) (.int .i64 a0_0) (#[.int .i64 a0_0, .int .i64 a0_1, .int .i64 a0_2, .bool a0_3]) BKb785.out rfl _ rfl rfl) rfl ?_)
                | ((with_reducible refine gate_d (N := 8) rfl ?_); refine ag_fix (.pointer (some ⟨gb785, 0, none⟩)) (ex_field 43 0 (.pointer (some ⟨gb785, 0, none⟩)) (.pointer (some ⟨gb785, 0, none⟩)) (fa43_0_0 gb785) _ rfl rfl) rfl ?_)
                | ((with_reducible refine gate_d (N := 9) rfl ?_); refine ag_fix (.int .i64 a0_0) (ex_get sT3 gb785 (0) (.int .i64 a0_0) (#[.int .i64 a0_0, .int .i64 a0_1, .int .i64 a0_2, .bool a0_3]) BKb785.out rfl _ rfl rfl) rfl ?_)
                | ((with_reducible refine gate_d (N := 13) rfl ?_); refine ag_fix (.pointer (some ⟨gb785, 2, none⟩)) (ex_field 43 2 (.pointer (some ⟨gb785, 0, none⟩)) (.pointer (some ⟨gb785, 2, none⟩)) (fa43_2_0 gb785) _ rfl rfl) rfl ?_)
                | ((with_reducible refine gate_d (N := 14) rfl ?_); refine ag_fix (.int .i64 a0_2) (ex_get sT3 gb785 (2) (.int .i64 a0_2) (#[.int .i64 a0_0, .int .i64 a0_1, .int .i64 a0_2, .bool a0_3]) BKb785.out rfl _ rfl rfl) rfl ?_)
                | ((with_reducible refine gate_d (N := 18) rfl ?_); refine ag_fix (.pointer (some ⟨gb785, 2, none⟩)) (ex_field 43 2 (.pointer (some ⟨gb785, 0, none⟩)) (.pointer (some ⟨gb785, 2, none⟩)) (fa43_2_0 gb785) _ rfl rfl) rfl ?_)
                | ((with_reducible refine gate_d (N := 19) rfl ?_); refine ag_fix (.int .i64 a0_2) (ex_get sT3 gb785 (2) (.int .i64 a0_2) (#[.int .i64 a0_0, .int .i64 a0_1, .int .i64 a0_2, .bool a0_3]) BKb785.out rfl _ rfl rfl) rfl ?_)
                | ((with_reducible refine gate_d (N := 23) rfl ?_); refine ag_fix (.pointer (some ⟨gb785, 0, none⟩)) (ex_field 43 0 (.pointer (some ⟨gb785, 0, none⟩)) (.pointer (some ⟨gb785, 0, none⟩)) (fa43_0_0 gb785) _ rfl rfl) rfl ?_)
                | ((with_reducible refine gate_d (N := 24) rfl ?_); refine ag_fix (.int .i64 a0_0) (ex_get sT3 gb785 (0) (.int .i64 a0_0) (#[.int .i64 a0_0, .int .i64 a0_1, .int .i64 a0_2, .bool a0_3]) BKb785.out rfl _ rfl rfl) rfl ?_)
                | ((with_reducible refine gate_d (N := 40) rfl ?_); refine ag_fix (.pointer (some ⟨gb785, 1, none⟩)) (ex_field 43 1 (.pointer (some ⟨gb785, 0, none⟩)) (.pointer (some ⟨gb785, 1, none⟩)) (fa43_1_0 gb785) _ rfl rfl) rfl ?_)
                | ((with_reducible refine gate_d (N := 41) rfl ?_); refine ag_fix (.int .i64 a0_1) (ex_get sT3 gb785 (1) (.int .i64 a0_1) (#[.int .i64 a0_0, .int .i64 a0_1, .int .i64 a0_2, .bool a0_3]) BKb785.out rfl _ rfl rfl) rfl ?_))
              (try simp only [Act.put, List.setIfInBounds_toArray, List.set_cons_zero, List.set_cons_succ])
              go_ret
              exact ⟨by first | rfl | (simp; done) | (simp [*]; done), HL.out⟩
            · rw [if_neg c800] at H
              have c800b0 : decide (a0_1 < 1) = false := decide_eq_false c800
              have hc800 := hid c800
              clear c800
              by_cases c802 : a0_1 > 2
              · rw [if_pos c802] at H
                have c802b0 : decide (2 < a0_1) = true := decide_eq_true c802
                have hc802 := hid c802
                clear c802
                obtain rfl := Option.some.inj H
                clear H
                go_enter Try.func50, Try.ntmps50
                go_wp2_with (first
                  | ((with_reducible refine gate_d (N := 1) rfl ?_); obtain ⟨gb785, hgb785⟩ : ∃ g_, w.heap.size = g_ := ⟨_, rfl⟩; refine ag_box #[.int .i64 a0_0, .int .i64 a0_1, .int .i64 a0_2, .bool a0_3] gb785 hgb785 rfl _ rfl rfl ?_; intro w803 hb_ hB_ hs_; have GEb785 : Hid (w.heap.size ≤ gb785) := hid (by have := HL.out.size; omega); replace HL := hid (HL.out.trans (hb_.mono GEb785.out)); have BKb785 := hid hB_; clear hb_ hB_ hs_ hgb785)
                  | ((with_reducible refine gate_d (N := 4) rfl ?_); refine ag_fix (.pointer (some ⟨gb785, 0, none⟩)) (ex_field 43 0 (.pointer (some ⟨gb785, 0, none⟩)) (.pointer (some ⟨gb785, 0, none⟩)) (fa43_0_0 gb785) _ rfl rfl) rfl ?_)
                  | ((with_reducible refine gate_d (N := 5) rfl ?_); refine ag_fix (.int .i64 a0_0) (ex_get sT3 gb785 (0) (.int .i64 a0_0) (#[.int .i64 a0_0, .int .i64 a0_1, .int .i64 a0_2, .bool a0_3]) BKb785.out rfl _ rfl rfl) rfl ?_)
                  | ((with_reducible refine gate_d (N := 8) rfl ?_); refine ag_fix (.pointer (some ⟨gb785, 0, none⟩)) (ex_field 43 0 (.pointer (some ⟨gb785, 0, none⟩)) (.pointer (some ⟨gb785, 0, none⟩)) (fa43_0_0 gb785) _ rfl rfl) rfl ?_)
                  | ((with_reducible refine gate_d (N := 9) rfl ?_); refine ag_fix (.int .i64 a0_0) (ex_get sT3 gb785 (0) (.int .i64 a0_0) (#[.int .i64 a0_0, .int .i64 a0_1, .int .i64 a0_2, .bool a0_3]) BKb785.out rfl _ rfl rfl) rfl ?_)
                  | ((with_reducible refine gate_d (N := 13) rfl ?_); refine ag_fix (.pointer (some ⟨gb785, 2, none⟩)) (ex_field 43 2 (.pointer (some ⟨gb785, 0, none⟩)) (.pointer (some ⟨gb785, 2, none⟩)) (fa43_2_0 gb785) _ rfl rfl) rfl ?_)
                  | ((with_reducible refine gate_d (N := 14) rfl ?_); refine ag_fix (.int .i64 a0_2) (ex_get sT3 gb785 (2) (.int .i64 a0_2) (#[.int .i64 a0_0, .int .i64 a0_1, .int .i64 a0_2, .bool a0_3]) BKb785.out rfl _ rfl rfl) rfl ?_)
                  | ((with_reducible refine gate_d (N := 18) rfl ?_); refine ag_fix (.pointer (some ⟨gb785, 2, none⟩)) (ex_field 43 2 (.pointer (some ⟨gb785, 0, none⟩)) (.pointer (some ⟨gb785, 2, none⟩)) (fa43_2_0 gb785) _ rfl rfl) rfl ?_)
                  | ((with_reducible refine gate_d (N := 19) rfl ?_); refine ag_fix (.int .i64 a0_2) (ex_get sT3 gb785 (2) (.int .i64 a0_2) (#[.int .i64 a0_0, .int .i64 a0_1, .int .i64 a0_2, .bool a0_3]) BKb785.out rfl _ rfl rfl) rfl ?_)
                  | ((with_reducible refine gate_d (N := 23) rfl ?_); refine ag_fix (.pointer (some ⟨gb785, 0, none⟩)) (ex_field 43 0 (.pointer (some ⟨gb785, 0, none⟩)) (.pointer (some ⟨gb785, 0, none⟩)) (fa43_0_0 gb785) _ rfl rfl) rfl ?_)
                  | ((with_reducible refine gate_d (N := 24) rfl ?_); refine ag_fix (.int .i64 a0_0) (ex_get sT3 gb785 (0) (.int .i64 a0_0) (#[.int .i64 a0_0, .int .i64 a0_1, .int .i64 a0_2, .bool a0_3]) BKb785.out rfl _ rfl rfl) rfl ?_)
                  | ((with_reducible refine gate_d (N := 40) rfl ?_); refine ag_fix (.pointer (some ⟨gb785, 1, none⟩)) (ex_field 43 1 (.pointer (some ⟨gb785, 0, none⟩)) (.pointer (some ⟨gb785, 1, none⟩)) (fa43_1_0 gb785) _ rfl rfl) rfl ?_)
                  | ((with_reducible refine gate_d (N := 41) rfl ?_); refine ag_fix (.int .i64 a0_1) (ex_get sT3 gb785 (1) (.int .i64 a0_1) (#[.int .i64 a0_0, .int .i64 a0_1, .int .i64 a0_2, .bool a0_3]) BKb785.out rfl _ rfl rfl) rfl ?_)
                  | ((with_reducible refine gate_d (N := 44) rfl ?_); refine ag_fix (.pointer (some ⟨gb785, 1, none⟩)) (ex_field 43 1 (.pointer (some ⟨gb785, 0, none⟩)) (.pointer (some ⟨gb785, 1, none⟩)) (fa43_1_0 gb785) _ rfl rfl) rfl ?_)
                  | ((with_reducible refine gate_d (N := 45) rfl ?_); refine ag_fix (.int .i64 a0_1) (ex_get sT3 gb785 (1) (.int .i64 a0_1) (#[.int .i64 a0_0, .int .i64 a0_1, .int .i64 a0_2, .bool a0_3]) BKb785.out rfl _ rfl rfl) rfl ?_))
                (try simp only [Act.put, List.setIfInBounds_toArray, List.set_cons_zero, List.set_cons_succ])
                go_ret
                exact ⟨by first | rfl | (simp; done) | (simp [*]; done), HL.out⟩
              · rw [if_neg c802] at H
                have c802b0 : decide (2 < a0_1) = false := decide_eq_false c802
                have hc802 := hid c802
                clear c802
                by_cases c804 : a0_0 = 5
                · rw [if_pos c804] at H
                  have c804b0 : (a0_0 == 5) = true := beq_iff_eq.mpr c804
                  have c804b1 : (a0_0 != 5) = false := bne_eq_false_iff_eq.mpr c804
                  have hc804 := hid c804
                  clear c804
                  by_cases c805 : a0_2 > 0
                  · rw [if_pos c805] at H
                    have c805b0 : decide (0 < a0_2) = true := decide_eq_true c805
                    have hc805 := hid c805
                    clear c805
                    obtain rfl := Option.some.inj H
                    clear H
                    go_enter Try.func50, Try.ntmps50
                    go_wp2_with (first
                      | ((with_reducible refine gate_d (N := 1) rfl ?_); obtain ⟨gb785, hgb785⟩ : ∃ g_, w.heap.size = g_ := ⟨_, rfl⟩; refine ag_box #[.int .i64 a0_0, .int .i64 a0_1, .int .i64 a0_2, .bool a0_3] gb785 hgb785 rfl _ rfl rfl ?_; intro w806 hb_ hB_ hs_; have GEb785 : Hid (w.heap.size ≤ gb785) := hid (by have := HL.out.size; omega); replace HL := hid (HL.out.trans (hb_.mono GEb785.out)); have BKb785 := hid hB_; clear hb_ hB_ hs_ hgb785)
                      | ((with_reducible refine gate_d (N := 4) rfl ?_); refine ag_fix (.pointer (some ⟨gb785, 0, none⟩)) (ex_field 43 0 (.pointer (some ⟨gb785, 0, none⟩)) (.pointer (some ⟨gb785, 0, none⟩)) (fa43_0_0 gb785) _ rfl rfl) rfl ?_)
                      | ((with_reducible refine gate_d (N := 5) rfl ?_); refine ag_fix (.int .i64 a0_0) (ex_get sT3 gb785 (0) (.int .i64 a0_0) (#[.int .i64 a0_0, .int .i64 a0_1, .int .i64 a0_2, .bool a0_3]) BKb785.out rfl _ rfl rfl) rfl ?_)
                      | ((with_reducible refine gate_d (N := 8) rfl ?_); refine ag_fix (.pointer (some ⟨gb785, 0, none⟩)) (ex_field 43 0 (.pointer (some ⟨gb785, 0, none⟩)) (.pointer (some ⟨gb785, 0, none⟩)) (fa43_0_0 gb785) _ rfl rfl) rfl ?_)
                      | ((with_reducible refine gate_d (N := 9) rfl ?_); refine ag_fix (.int .i64 a0_0) (ex_get sT3 gb785 (0) (.int .i64 a0_0) (#[.int .i64 a0_0, .int .i64 a0_1, .int .i64 a0_2, .bool a0_3]) BKb785.out rfl _ rfl rfl) rfl ?_)
                      | ((with_reducible refine gate_d (N := 13) rfl ?_); refine ag_fix (.pointer (some ⟨gb785, 2, none⟩)) (ex_field 43 2 (.pointer (some ⟨gb785, 0, none⟩)) (.pointer (some ⟨gb785, 2, none⟩)) (fa43_2_0 gb785) _ rfl rfl) rfl ?_)
                      | ((with_reducible refine gate_d (N := 14) rfl ?_); refine ag_fix (.int .i64 a0_2) (ex_get sT3 gb785 (2) (.int .i64 a0_2) (#[.int .i64 a0_0, .int .i64 a0_1, .int .i64 a0_2, .bool a0_3]) BKb785.out rfl _ rfl rfl) rfl ?_)
                      | ((with_reducible refine gate_d (N := 18) rfl ?_); refine ag_fix (.pointer (some ⟨gb785, 2, none⟩)) (ex_field 43 2 (.pointer (some ⟨gb785, 0, none⟩)) (.pointer (some ⟨gb785, 2, none⟩)) (fa43_2_0 gb785) _ rfl rfl) rfl ?_)
                      | ((with_reducible refine gate_d (N := 19) rfl ?_); refine ag_fix (.int .i64 a0_2) (ex_get sT3 gb785 (2) (.int .i64 a0_2) (#[.int .i64 a0_0, .int .i64 a0_1, .int .i64 a0_2, .bool a0_3]) BKb785.out rfl _ rfl rfl) rfl ?_)
                      | ((with_reducible refine gate_d (N := 23) rfl ?_); refine ag_fix (.pointer (some ⟨gb785, 0, none⟩)) (ex_field 43 0 (.pointer (some ⟨gb785, 0, none⟩)) (.pointer (some ⟨gb785, 0, none⟩)) (fa43_0_0 gb785) _ rfl rfl) rfl ?_)
                      | ((with_reducible refine gate_d (N := 24) rfl ?_); refine ag_fix (.int .i64 a0_0) (ex_get sT3 gb785 (0) (.int .i64 a0_0) (#[.int .i64 a0_0, .int .i64 a0_1, .int .i64 a0_2, .bool a0_3]) BKb785.out rfl _ rfl rfl) rfl ?_)
                      | ((with_reducible refine gate_d (N := 40) rfl ?_); refine ag_fix (.pointer (some ⟨gb785, 1, none⟩)) (ex_field 43 1 (.pointer (some ⟨gb785, 0, none⟩)) (.pointer (some ⟨gb785, 1, none⟩)) (fa43_1_0 gb785) _ rfl rfl) rfl ?_)
                      | ((with_reducible refine gate_d (N := 41) rfl ?_); refine ag_fix (.int .i64 a0_1) (ex_get sT3 gb785 (1) (.int .i64 a0_1) (#[.int .i64 a0_0, .int .i64 a0_1, .int .i64 a0_2, .bool a0_3]) BKb785.out rfl _ rfl rfl) rfl ?_)
                      | ((with_reducible refine gate_d (N := 44) rfl ?_); refine ag_fix (.pointer (some ⟨gb785, 1, none⟩)) (ex_field 43 1 (.pointer (some ⟨gb785, 0, none⟩)) (.pointer (some ⟨gb785, 1, none⟩)) (fa43_1_0 gb785) _ rfl rfl) rfl ?_)
                      | ((with_reducible refine gate_d (N := 45) rfl ?_); refine ag_fix (.int .i64 a0_1) (ex_get sT3 gb785 (1) (.int .i64 a0_1) (#[.int .i64 a0_0, .int .i64 a0_1, .int .i64 a0_2, .bool a0_3]) BKb785.out rfl _ rfl rfl) rfl ?_)
                      | ((with_reducible refine gate_d (N := 49) rfl ?_); refine ag_fix (.pointer (some ⟨gb785, 0, none⟩)) (ex_field 43 0 (.pointer (some ⟨gb785, 0, none⟩)) (.pointer (some ⟨gb785, 0, none⟩)) (fa43_0_0 gb785) _ rfl rfl) rfl ?_)
                      | ((with_reducible refine gate_d (N := 50) rfl ?_); refine ag_fix (.int .i64 a0_0) (ex_get sT3 gb785 (0) (.int .i64 a0_0) (#[.int .i64 a0_0, .int .i64 a0_1, .int .i64 a0_2, .bool a0_3]) BKb785.out rfl _ rfl rfl) rfl ?_)
                      | ((with_reducible refine gate_d (N := 52) rfl ?_); refine ag_fix (.pointer (some ⟨gb785, 2, none⟩)) (ex_field 43 2 (.pointer (some ⟨gb785, 0, none⟩)) (.pointer (some ⟨gb785, 2, none⟩)) (fa43_2_0 gb785) _ rfl rfl) rfl ?_)
                      | ((with_reducible refine gate_d (N := 53) rfl ?_); refine ag_fix (.int .i64 a0_2) (ex_get sT3 gb785 (2) (.int .i64 a0_2) (#[.int .i64 a0_0, .int .i64 a0_1, .int .i64 a0_2, .bool a0_3]) BKb785.out rfl _ rfl rfl) rfl ?_))
                    (try simp only [Act.put, List.setIfInBounds_toArray, List.set_cons_zero, List.set_cons_succ])
                    go_ret
                    exact ⟨by first | rfl | (simp; done) | (simp [*]; done), HL.out⟩
                  · rw [if_neg c805] at H
                    have c805b0 : decide (0 < a0_2) = false := decide_eq_false c805
                    have hc805 := hid c805
                    clear c805
                    obtain rfl := Option.some.inj H
                    clear H
                    go_enter Try.func50, Try.ntmps50
                    go_wp2_with (first
                      | ((with_reducible refine gate_d (N := 1) rfl ?_); obtain ⟨gb785, hgb785⟩ : ∃ g_, w.heap.size = g_ := ⟨_, rfl⟩; refine ag_box #[.int .i64 a0_0, .int .i64 a0_1, .int .i64 a0_2, .bool a0_3] gb785 hgb785 rfl _ rfl rfl ?_; intro w807 hb_ hB_ hs_; have GEb785 : Hid (w.heap.size ≤ gb785) := hid (by have := HL.out.size; omega); replace HL := hid (HL.out.trans (hb_.mono GEb785.out)); have BKb785 := hid hB_; clear hb_ hB_ hs_ hgb785)
                      | ((with_reducible refine gate_d (N := 4) rfl ?_); refine ag_fix (.pointer (some ⟨gb785, 0, none⟩)) (ex_field 43 0 (.pointer (some ⟨gb785, 0, none⟩)) (.pointer (some ⟨gb785, 0, none⟩)) (fa43_0_0 gb785) _ rfl rfl) rfl ?_)
                      | ((with_reducible refine gate_d (N := 5) rfl ?_); refine ag_fix (.int .i64 a0_0) (ex_get sT3 gb785 (0) (.int .i64 a0_0) (#[.int .i64 a0_0, .int .i64 a0_1, .int .i64 a0_2, .bool a0_3]) BKb785.out rfl _ rfl rfl) rfl ?_)
                      | ((with_reducible refine gate_d (N := 8) rfl ?_); refine ag_fix (.pointer (some ⟨gb785, 0, none⟩)) (ex_field 43 0 (.pointer (some ⟨gb785, 0, none⟩)) (.pointer (some ⟨gb785, 0, none⟩)) (fa43_0_0 gb785) _ rfl rfl) rfl ?_)
                      | ((with_reducible refine gate_d (N := 9) rfl ?_); refine ag_fix (.int .i64 a0_0) (ex_get sT3 gb785 (0) (.int .i64 a0_0) (#[.int .i64 a0_0, .int .i64 a0_1, .int .i64 a0_2, .bool a0_3]) BKb785.out rfl _ rfl rfl) rfl ?_)
                      | ((with_reducible refine gate_d (N := 13) rfl ?_); refine ag_fix (.pointer (some ⟨gb785, 2, none⟩)) (ex_field 43 2 (.pointer (some ⟨gb785, 0, none⟩)) (.pointer (some ⟨gb785, 2, none⟩)) (fa43_2_0 gb785) _ rfl rfl) rfl ?_)
                      | ((with_reducible refine gate_d (N := 14) rfl ?_); refine ag_fix (.int .i64 a0_2) (ex_get sT3 gb785 (2) (.int .i64 a0_2) (#[.int .i64 a0_0, .int .i64 a0_1, .int .i64 a0_2, .bool a0_3]) BKb785.out rfl _ rfl rfl) rfl ?_)
                      | ((with_reducible refine gate_d (N := 18) rfl ?_); refine ag_fix (.pointer (some ⟨gb785, 2, none⟩)) (ex_field 43 2 (.pointer (some ⟨gb785, 0, none⟩)) (.pointer (some ⟨gb785, 2, none⟩)) (fa43_2_0 gb785) _ rfl rfl) rfl ?_)
                      | ((with_reducible refine gate_d (N := 19) rfl ?_); refine ag_fix (.int .i64 a0_2) (ex_get sT3 gb785 (2) (.int .i64 a0_2) (#[.int .i64 a0_0, .int .i64 a0_1, .int .i64 a0_2, .bool a0_3]) BKb785.out rfl _ rfl rfl) rfl ?_)
                      | ((with_reducible refine gate_d (N := 23) rfl ?_); refine ag_fix (.pointer (some ⟨gb785, 0, none⟩)) (ex_field 43 0 (.pointer (some ⟨gb785, 0, none⟩)) (.pointer (some ⟨gb785, 0, none⟩)) (fa43_0_0 gb785) _ rfl rfl) rfl ?_)
                      | ((with_reducible refine gate_d (N := 24) rfl ?_); refine ag_fix (.int .i64 a0_0) (ex_get sT3 gb785 (0) (.int .i64 a0_0) (#[.int .i64 a0_0, .int .i64 a0_1, .int .i64 a0_2, .bool a0_3]) BKb785.out rfl _ rfl rfl) rfl ?_)
                      | ((with_reducible refine gate_d (N := 40) rfl ?_); refine ag_fix (.pointer (some ⟨gb785, 1, none⟩)) (ex_field 43 1 (.pointer (some ⟨gb785, 0, none⟩)) (.pointer (some ⟨gb785, 1, none⟩)) (fa43_1_0 gb785) _ rfl rfl) rfl ?_)
                      | ((with_reducible refine gate_d (N := 41) rfl ?_); refine ag_fix (.int .i64 a0_1) (ex_get sT3 gb785 (1) (.int .i64 a0_1) (#[.int .i64 a0_0, .int .i64 a0_1, .int .i64 a0_2, .bool a0_3]) BKb785.out rfl _ rfl rfl) rfl ?_)
                      | ((with_reducible refine gate_d (N := 44) rfl ?_); refine ag_fix (.pointer (some ⟨gb785, 1, none⟩)) (ex_field 43 1 (.pointer (some ⟨gb785, 0, none⟩)) (.pointer (some ⟨gb785, 1, none⟩)) (fa43_1_0 gb785) _ rfl rfl) rfl ?_)
                      | ((with_reducible refine gate_d (N := 45) rfl ?_); refine ag_fix (.int .i64 a0_1) (ex_get sT3 gb785 (1) (.int .i64 a0_1) (#[.int .i64 a0_0, .int .i64 a0_1, .int .i64 a0_2, .bool a0_3]) BKb785.out rfl _ rfl rfl) rfl ?_)
                      | ((with_reducible refine gate_d (N := 49) rfl ?_); refine ag_fix (.pointer (some ⟨gb785, 0, none⟩)) (ex_field 43 0 (.pointer (some ⟨gb785, 0, none⟩)) (.pointer (some ⟨gb785, 0, none⟩)) (fa43_0_0 gb785) _ rfl rfl) rfl ?_)
                      | ((with_reducible refine gate_d (N := 50) rfl ?_); refine ag_fix (.int .i64 a0_0) (ex_get sT3 gb785 (0) (.int .i64 a0_0) (#[.int .i64 a0_0, .int .i64 a0_1, .int .i64 a0_2, .bool a0_3]) BKb785.out rfl _ rfl rfl) rfl ?_)
                      | ((with_reducible refine gate_d (N := 52) rfl ?_); refine ag_fix (.pointer (some ⟨gb785, 2, none⟩)) (ex_field 43 2 (.pointer (some ⟨gb785, 0, none⟩)) (.pointer (some ⟨gb785, 2, none⟩)) (fa43_2_0 gb785) _ rfl rfl) rfl ?_)
                      | ((with_reducible refine gate_d (N := 53) rfl ?_); refine ag_fix (.int .i64 a0_2) (ex_get sT3 gb785 (2) (.int .i64 a0_2) (#[.int .i64 a0_0, .int .i64 a0_1, .int .i64 a0_2, .bool a0_3]) BKb785.out rfl _ rfl rfl) rfl ?_)
                      | ((with_reducible refine gate_d (N := 56) rfl ?_); refine ag_fix (.pointer (some ⟨gb785, 3, none⟩)) (ex_field 43 3 (.pointer (some ⟨gb785, 0, none⟩)) (.pointer (some ⟨gb785, 3, none⟩)) (fa43_3_0 gb785) _ rfl rfl) rfl ?_)
                      | ((with_reducible refine gate_d (N := 57) rfl ?_); refine ag_fix (.bool a0_3) (ex_get sT4 gb785 (3) (.bool a0_3) (#[.int .i64 a0_0, .int .i64 a0_1, .int .i64 a0_2, .bool a0_3]) BKb785.out rfl _ rfl rfl) rfl ?_))
                    (try simp only [Act.put, List.setIfInBounds_toArray, List.set_cons_zero, List.set_cons_succ])
                    go_ret
                    exact ⟨by first | rfl | (simp; done) | (simp [*]; done), HL.out⟩
                · rw [if_neg c804] at H
                  have c804b0 : (a0_0 == 5) = false := beq_eq_false_iff_ne.mpr c804
                  have c804b1 : (a0_0 != 5) = true := bne_iff_ne.mpr c804
                  have hc804 := hid c804
                  clear c804
                  by_cases c808 : a0_2 > 0
                  · rw [if_pos c808] at H
                    have c808b0 : decide (0 < a0_2) = true := decide_eq_true c808
                    have hc808 := hid c808
                    clear c808
                    obtain rfl := Option.some.inj H
                    clear H
                    go_enter Try.func50, Try.ntmps50
                    go_wp2_with (first
                      | ((with_reducible refine gate_d (N := 1) rfl ?_); obtain ⟨gb785, hgb785⟩ : ∃ g_, w.heap.size = g_ := ⟨_, rfl⟩; refine ag_box #[.int .i64 a0_0, .int .i64 a0_1, .int .i64 a0_2, .bool a0_3] gb785 hgb785 rfl _ rfl rfl ?_; intro w809 hb_ hB_ hs_; have GEb785 : Hid (w.heap.size ≤ gb785) := hid (by have := HL.out.size; omega); replace HL := hid (HL.out.trans (hb_.mono GEb785.out)); have BKb785 := hid hB_; clear hb_ hB_ hs_ hgb785)
                      | ((with_reducible refine gate_d (N := 4) rfl ?_); refine ag_fix (.pointer (some ⟨gb785, 0, none⟩)) (ex_field 43 0 (.pointer (some ⟨gb785, 0, none⟩)) (.pointer (some ⟨gb785, 0, none⟩)) (fa43_0_0 gb785) _ rfl rfl) rfl ?_)
                      | ((with_reducible refine gate_d (N := 5) rfl ?_); refine ag_fix (.int .i64 a0_0) (ex_get sT3 gb785 (0) (.int .i64 a0_0) (#[.int .i64 a0_0, .int .i64 a0_1, .int .i64 a0_2, .bool a0_3]) BKb785.out rfl _ rfl rfl) rfl ?_)
                      | ((with_reducible refine gate_d (N := 8) rfl ?_); refine ag_fix (.pointer (some ⟨gb785, 0, none⟩)) (ex_field 43 0 (.pointer (some ⟨gb785, 0, none⟩)) (.pointer (some ⟨gb785, 0, none⟩)) (fa43_0_0 gb785) _ rfl rfl) rfl ?_)
                      | ((with_reducible refine gate_d (N := 9) rfl ?_); refine ag_fix (.int .i64 a0_0) (ex_get sT3 gb785 (0) (.int .i64 a0_0) (#[.int .i64 a0_0, .int .i64 a0_1, .int .i64 a0_2, .bool a0_3]) BKb785.out rfl _ rfl rfl) rfl ?_)
                      | ((with_reducible refine gate_d (N := 13) rfl ?_); refine ag_fix (.pointer (some ⟨gb785, 2, none⟩)) (ex_field 43 2 (.pointer (some ⟨gb785, 0, none⟩)) (.pointer (some ⟨gb785, 2, none⟩)) (fa43_2_0 gb785) _ rfl rfl) rfl ?_)
                      | ((with_reducible refine gate_d (N := 14) rfl ?_); refine ag_fix (.int .i64 a0_2) (ex_get sT3 gb785 (2) (.int .i64 a0_2) (#[.int .i64 a0_0, .int .i64 a0_1, .int .i64 a0_2, .bool a0_3]) BKb785.out rfl _ rfl rfl) rfl ?_)
                      | ((with_reducible refine gate_d (N := 18) rfl ?_); refine ag_fix (.pointer (some ⟨gb785, 2, none⟩)) (ex_field 43 2 (.pointer (some ⟨gb785, 0, none⟩)) (.pointer (some ⟨gb785, 2, none⟩)) (fa43_2_0 gb785) _ rfl rfl) rfl ?_)
                      | ((with_reducible refine gate_d (N := 19) rfl ?_); refine ag_fix (.int .i64 a0_2) (ex_get sT3 gb785 (2) (.int .i64 a0_2) (#[.int .i64 a0_0, .int .i64 a0_1, .int .i64 a0_2, .bool a0_3]) BKb785.out rfl _ rfl rfl) rfl ?_)
                      | ((with_reducible refine gate_d (N := 23) rfl ?_); refine ag_fix (.pointer (some ⟨gb785, 0, none⟩)) (ex_field 43 0 (.pointer (some ⟨gb785, 0, none⟩)) (.pointer (some ⟨gb785, 0, none⟩)) (fa43_0_0 gb785) _ rfl rfl) rfl ?_)
                      | ((with_reducible refine gate_d (N := 24) rfl ?_); refine ag_fix (.int .i64 a0_0) (ex_get sT3 gb785 (0) (.int .i64 a0_0) (#[.int .i64 a0_0, .int .i64 a0_1, .int .i64 a0_2, .bool a0_3]) BKb785.out rfl _ rfl rfl) rfl ?_)
                      | ((with_reducible refine gate_d (N := 40) rfl ?_); refine ag_fix (.pointer (some ⟨gb785, 1, none⟩)) (ex_field 43 1 (.pointer (some ⟨gb785, 0, none⟩)) (.pointer (some ⟨gb785, 1, none⟩)) (fa43_1_0 gb785) _ rfl rfl) rfl ?_)
                      | ((with_reducible refine gate_d (N := 41) rfl ?_); refine ag_fix (.int .i64 a0_1) (ex_get sT3 gb785 (1) (.int .i64 a0_1) (#[.int .i64 a0_0, .int .i64 a0_1, .int .i64 a0_2, .bool a0_3]) BKb785.out rfl _ rfl rfl) rfl ?_)
                      | ((with_reducible refine gate_d (N := 44) rfl ?_); refine ag_fix (.pointer (some ⟨gb785, 1, none⟩)) (ex_field 43 1 (.pointer (some ⟨gb785, 0, none⟩)) (.pointer (some ⟨gb785, 1, none⟩)) (fa43_1_0 gb785) _ rfl rfl) rfl ?_)
                      | ((with_reducible refine gate_d (N := 45) rfl ?_); refine ag_fix (.int .i64 a0_1) (ex_get sT3 gb785 (1) (.int .i64 a0_1) (#[.int .i64 a0_0, .int .i64 a0_1, .int .i64 a0_2, .bool a0_3]) BKb785.out rfl _ rfl rfl) rfl ?_)
                      | ((with_reducible refine gate_d (N := 49) rfl ?_); refine ag_fix (.pointer (some ⟨gb785, 0, none⟩)) (ex_field 43 0 (.pointer (some ⟨gb785, 0, none⟩)) (.pointer (some ⟨gb785, 0, none⟩)) (fa43_0_0 gb785) _ rfl rfl) rfl ?_)
                      | ((with_reducible refine gate_d (N := 50) rfl ?_); refine ag_fix (.int .i64 a0_0) (ex_get sT3 gb785 (0) (.int .i64 a0_0) (#[.int .i64 a0_0, .int .i64 a0_1, .int .i64 a0_2, .bool a0_3]) BKb785.out rfl _ rfl rfl) rfl ?_)
                      | ((with_reducible refine gate_d (N := 59) rfl ?_); refine ag_fix (.pointer (some ⟨gb785, 2, none⟩)) (ex_field 43 2 (.pointer (some ⟨gb785, 0, none⟩)) (.pointer (some ⟨gb785, 2, none⟩)) (fa43_2_0 gb785) _ rfl rfl) rfl ?_)
                      | ((with_reducible refine gate_d (N := 60) rfl ?_); refine ag_fix (.int .i64 a0_2) (ex_get sT3 gb785 (2) (.int .i64 a0_2) (#[.int .i64 a0_0, .int .i64 a0_1, .int .i64 a0_2, .bool a0_3]) BKb785.out rfl _ rfl rfl) rfl ?_)
                      | ((with_reducible refine gate_d (N := 63) rfl ?_); refine ag_fix (.pointer (some ⟨gb785, 3, none⟩)) (ex_field 43 3 (.pointer (some ⟨gb785, 0, none⟩)) (.pointer (some ⟨gb785, 3, none⟩)) (fa43_3_0 gb785) _ rfl rfl) rfl ?_)
                      | ((with_reducible refine gate_d (N := 64) rfl ?_); refine ag_fix (.bool a0_3) (ex_get sT4 gb785 (3) (.bool a0_3) (#[.int .i64 a0_0, .int .i64 a0_1, .int .i64 a0_2, .bool a0_3]) BKb785.out rfl _ rfl rfl) rfl ?_))
                    (try simp only [Act.put, List.setIfInBounds_toArray, List.set_cons_zero, List.set_cons_succ])
                    go_ret
                    exact ⟨by first | rfl | (simp; done) | (simp [*]; done), HL.out⟩
                  · rw [if_neg c808] at H
                    have c808b0 : decide (0 < a0_2) = false := decide_eq_false c808
                    have hc808 := hid c808
                    clear c808
                    obtain rfl := Option.some.inj H
                    clear H
                    go_enter Try.func50, Try.ntmps50
                    go_wp2_with (first
                      | ((with_reducible refine gate_d (N := 1) rfl ?_); obtain ⟨gb785, hgb785⟩ : ∃ g_, w.heap.size = g_ := ⟨_, rfl⟩; refine ag_box #[.int .i64 a0_0, .int .i64 a0_1, .int .i64 a0_2, .bool a0_3] gb785 hgb785 rfl _ rfl rfl ?_; intro w810 hb_ hB_ hs_; have GEb785 : Hid (w.heap.size ≤ gb785) := hid (by have := HL.out.size; omega); replace HL := hid (HL.out.trans (hb_.mono GEb785.out)); have BKb785 := hid hB_; clear hb_ hB_ hs_ hgb785)
                      | ((with_reducible refine gate_d (N := 4) rfl ?_); refine ag_fix (.pointer (some ⟨gb785, 0, none⟩)) (ex_field 43 0 (.pointer (some ⟨gb785, 0, none⟩)) (.pointer (some ⟨gb785, 0, none⟩)) (fa43_0_0 gb785) _ rfl rfl) rfl ?_)
                      | ((with_reducible refine gate_d (N := 5) rfl ?_); refine ag_fix (.int .i64 a0_0) (ex_get sT3 gb785 (0) (.int .i64 a0_0) (#[.int .i64 a0_0, .int .i64 a0_1, .int .i64 a0_2, .bool a0_3]) BKb785.out rfl _ rfl rfl) rfl ?_)
                      | ((with_reducible refine gate_d (N := 8) rfl ?_); refine ag_fix (.pointer (some ⟨gb785, 0, none⟩)) (ex_field 43 0 (.pointer (some ⟨gb785, 0, none⟩)) (.pointer (some ⟨gb785, 0, none⟩)) (fa43_0_0 gb785) _ rfl rfl) rfl ?_)
                      | ((with_reducible refine gate_d (N := 9) rfl ?_); refine ag_fix (.int .i64 a0_0) (ex_get sT3 gb785 (0) (.int .i64 a0_0) (#[.int .i64 a0_0, .int .i64 a0_1, .int .i64 a0_2, .bool a0_3]) BKb785.out rfl _ rfl rfl) rfl ?_)
                      | ((with_reducible refine gate_d (N := 13) rfl ?_); refine ag_fix (.pointer (some ⟨gb785, 2, none⟩)) (ex_field 43 2 (.pointer (some ⟨gb785, 0, none⟩)) (.pointer (some ⟨gb785, 2, none⟩)) (fa43_2_0 gb785) _ rfl rfl) rfl ?_)
                      | ((with_reducible refine gate_d (N := 14) rfl ?_); refine ag_fix (.int .i64 a0_2) (ex_get sT3 gb785 (2) (.int .i64 a0_2) (#[.int .i64 a0_0, .int .i64 a0_1, .int .i64 a0_2, .bool a0_3]) BKb785.out rfl _ rfl rfl) rfl ?_)
                      | ((with_reducible refine gate_d (N := 18) rfl ?_); refine ag_fix (.pointer (some ⟨gb785, 2, none⟩)) (ex_field 43 2 (.pointer (some ⟨gb785, 0, none⟩)) (.pointer (some ⟨gb785, 2, none⟩)) (fa43_2_0 gb785) _ rfl rfl) rfl ?_)
                      | ((with_reducible refine gate_d (N := 19) rfl ?_); refine ag_fix (.int .i64 a0_2) (ex_get sT3 gb785 (2) (.int .i64 a0_2) (#[.int .i64 a0_0, .int .i64 a0_1, .int .i64 a0_2, .bool a0_3]) BKb785.out rfl _ rfl rfl) rfl ?_)
                      | ((with_reducible refine gate_d (N := 23) rfl ?_); refine ag_fix (.pointer (some ⟨gb785, 0, none⟩)) (ex_field 43 0 (.pointer (some ⟨gb785, 0, none⟩)) (.pointer (some ⟨gb785, 0, none⟩)) (fa43_0_0 gb785) _ rfl rfl) rfl ?_)
                      | ((with_reducible refine gate_d (N := 24) rfl ?_); refine ag_fix (.int .i64 a0_0) (ex_get sT3 gb785 (0) (.int .i64 a0_0) (#[.int .i64 a0_0, .int .i64 a0_1, .int .i64 a0_2, .bool a0_3]) BKb785.out rfl _ rfl rfl) rfl ?_)
                      | ((with_reducible refine gate_d (N := 40) rfl ?_); refine ag_fix (.pointer (some ⟨gb785, 1, none⟩)) (ex_field 43 1 (.pointer (some ⟨gb785, 0, none⟩)) (.pointer (some ⟨gb785, 1, none⟩)) (fa43_1_0 gb785) _ rfl rfl) rfl ?_)
                      | ((with_reducible refine gate_d (N := 41) rfl ?_); refine ag_fix (.int .i64 a0_1) (ex_get sT3 gb785 (1) (.int .i64 a0_1) (#[.int .i64 a0_0, .int .i64 a0_1, .int .i64 a0_2, .bool a0_3]) BKb785.out rfl _ rfl rfl) rfl ?_)
                      | ((with_reducible refine gate_d (N := 44) rfl ?_); refine ag_fix (.pointer (some ⟨gb785, 1, none⟩)) (ex_field 43 1 (.pointer (some ⟨gb785, 0, none⟩)) (.pointer (some ⟨gb785, 1, none⟩)) (fa43_1_0 gb785) _ rfl rfl) rfl ?_)
                      | ((with_reducible refine gate_d (N := 45) rfl ?_); refine ag_fix (.int .i64 a0_1) (ex_get sT3 gb785 (1) (.int .i64 a0_1) (#[.int .i64 a0_0, .int .i64 a0_1, .int .i64 a0_2, .bool a0_3]) BKb785.out rfl _ rfl rfl) rfl ?_)
                      | ((with_reducible refine gate_d (N := 49) rfl ?_); refine ag_fix (.pointer (some ⟨gb785, 0, none⟩)) (ex_field 43 0 (.pointer (some ⟨gb785, 0, none⟩)) (.pointer (some ⟨gb785, 0, none⟩)) (fa43_0_0 gb785) _ rfl rfl) rfl ?_)
                      | ((with_reducible refine gate_d (N := 50) rfl ?_); refine ag_fix (.int .i64 a0_0) (ex_get sT3 gb785 (0) (.int .i64 a0_0) (#[.int .i64 a0_0, .int .i64 a0_1, .int .i64 a0_2, .bool a0_3]) BKb785.out rfl _ rfl rfl) rfl ?_)
                      | ((with_reducible refine gate_d (N := 59) rfl ?_); refine ag_fix (.pointer (some ⟨gb785, 2, none⟩)) (ex_field 43 2 (.pointer (some ⟨gb785, 0, none⟩)) (.pointer (some ⟨gb785, 2, none⟩)) (fa43_2_0 gb785) _ rfl rfl) rfl ?_)
                      | ((with_reducible refine gate_d (N := 60) rfl ?_); refine ag_fix (.int .i64 a0_2) (ex_get sT3 gb785 (2) (.int .i64 a0_2) (#[.int .i64 a0_0, .int .i64 a0_1, .int .i64 a0_2, .bool a0_3]) BKb785.out rfl _ rfl rfl) rfl ?_))
                    (try simp only [Act.put, List.setIfInBounds_toArray, List.set_cons_zero, List.set_cons_succ])
                    go_ret
                    exact ⟨by first | rfl | (simp; done) | (simp [*]; done), HL.out⟩
/-! i_stip_Begins: function 37 -/
def i_stip_Begins.f (a0_0 : Int) (a0_1 : Int) (a0_2 : Int) (a0_3 : Bool) : Option (Int) := (i_stip_right.f a0_0 a0_1 a0_2 a0_3).bind fun t812 => (if t812 = true then (if a0_0 = 6 then (some 1) else (if a0_0 = 5 then (if a0_3 = true then (some 0) else (some 1)) else (some 0))) else (some (-1)))
set_option maxHeartbeats 40000000 in
set_option maxRecDepth 100000 in
theorem i_stip_Begins.calls (a0_0 : Int) (a0_1 : Int) (a0_2 : Int) (a0_3 : Bool) (r1 : Int) (w : World) (h : i_stip_Begins.f a0_0 a0_1 a0_2 a0_3 = some r1) :
    Calls Try.prog 37 #[.agg #[.int .i64 a0_0, .int .i64 a0_1, .int .i64 a0_2, .bool a0_3]] w fun e w' => e = .returned (.int .i64 r1) ∧ Below w.heap.size w w' := by
  have HL := hid (Below.refl w.heap.size w)
  have H : ((i_stip_right.f a0_0 a0_1 a0_2 a0_3).bind fun t812 => (if t812 = true then (if a0_0 = 6 then (some 1) else (if a0_0 = 5 then (if a0_3 = true then (some 0) else (some 1)) else (some 0))) else (some (-1)))) = some r1 := h
  clear h
  replace H := Option.bind_eq_some_iff.mp H
  obtain ⟨t812, A813_, H⟩ := H
  replace H : (if t812 = true then (if a0_0 = 6 then (some 1) else (if a0_0 = 5 then (if a0_3 = true then (some 0) else (some 1)) else (some 0))) else (some (-1))) = some r1 := H
  have A813 := hid A813_
  clear A813_
  cases t812 with
  | true =>
    rw [if_pos rfl] at H
    by_cases c815 : a0_0 = 6
    · rw [if_pos c815] at H
      have c815b0 : (a0_0 == 6) = true := beq_iff_eq.mpr c815
      have c815b1 : (a0_0 != 6) = false := bne_eq_false_iff_eq.mpr c815
      have hc815 := hid c815
      clear c815
      obtain rfl := Option.some.inj H
      clear H
      go_enter Try.func37, Try.ntmps37
      have k817 := True.intro
      go_wp2_with (first
        | ((with_reducible refine gate_d (N := 1) rfl ?_); obtain ⟨gb811, hgb811⟩ : ∃ g_, w.heap.size = g_ := ⟨_, rfl⟩; refine ag_box #[.int .i64 a0_0, .int .i64 a0_1, .int .i64 a0_2, .bool a0_3] gb811 hgb811 rfl _ rfl rfl ?_; intro w816 hb_ hB_ hs_; have GEb811 : Hid (w.heap.size ≤ gb811) := hid (by have := HL.out.size; omega); replace HL := hid (HL.out.trans (hb_.mono GEb811.out)); have BKb811 := hid hB_; clear hb_ hB_ hs_ hgb811)
        | ((with_reducible refine gate_d (N := 4) rfl ?_); refine ag_fix (.agg #[.int .i64 a0_0, .int .i64 a0_1, .int .i64 a0_2, .bool a0_3]) (ex_load aT43 gb811 0 #[.int .i64 a0_0, .int .i64 a0_1, .int .i64 a0_2, .bool a0_3] #[.int .i64 a0_0, .int .i64 a0_1, .int .i64 a0_2, .bool a0_3] BKb811.out (by simp) rfl _ rfl rfl) rfl ?_)
        | (go_at_call 50; clear k817; refine (i_stip_right.calls a0_0 a0_1 a0_2 a0_3 true _ A813.out).mono ?_; rintro e_ w818 ⟨rfl, hb_⟩; replace BKb811 := hid (BKb811.out.below hb_ BKb811.out.lt); replace HL := hid (HL.out.trans (hb_.mono HL.out.size)); clear hb_)
        | ((with_reducible refine gate_d (N := 8) rfl ?_); refine ag_fix (.pointer (some ⟨gb811, 0, none⟩)) (ex_field 43 0 (.pointer (some ⟨gb811, 0, none⟩)) (.pointer (some ⟨gb811, 0, none⟩)) (fa43_0_0 gb811) _ rfl rfl) rfl ?_)
        | ((with_reducible refine gate_d (N := 9) rfl ?_); refine ag_fix (.int .i64 a0_0) (ex_get sT3 gb811 (0) (.int .i64 a0_0) (#[.int .i64 a0_0, .int .i64 a0_1, .int .i64 a0_2, .bool a0_3]) BKb811.out rfl _ rfl rfl) rfl ?_))
      (try simp only [Act.put, List.setIfInBounds_toArray, List.set_cons_zero, List.set_cons_succ])
      go_ret
      exact ⟨by first | rfl | (simp; done) | (simp [*]; done), HL.out⟩
    · rw [if_neg c815] at H
      have c815b0 : (a0_0 == 6) = false := beq_eq_false_iff_ne.mpr c815
      have c815b1 : (a0_0 != 6) = true := bne_iff_ne.mpr c815
      have hc815 := hid c815
      clear c815
      by_cases c819 : a0_0 = 5
      · rw [if_pos c819] at H
        have c819b0 : (a0_0 == 5) = true := beq_iff_eq.mpr c819
        have c819b1 : (a0_0 != 5) = false := bne_eq_false_iff_eq.mpr c819
        have hc819 := hid c819
        clear c819
        cases a0_3 with
        | true =>
          rw [if_pos rfl] at H
          obtain rfl := Option.some.inj H
          clear H
          go_enter Try.func37, Try.ntmps37
          have k822 := True.intro
          go_wp2_with (first
            | ((with_reducible refine gate_d (N := 1) rfl ?_); obtain ⟨gb811, hgb811⟩ : ∃ g_, w.heap.size = g_ := ⟨_, rfl⟩; refine ag_box #[.int .i64 a0_0, .int .i64 a0_1, .int .i64 a0_2, .bool true] gb811 hgb811 rfl _ rfl rfl ?_; intro w821 hb_ hB_ hs_; have GEb811 : Hid (w.heap.size ≤ gb811) := hid (by have := HL.out.size; omega); replace HL := hid (HL.out.trans (hb_.mono GEb811.out)); have BKb811 := hid hB_; clear hb_ hB_ hs_ hgb811)
            | ((with_reducible refine gate_d (N := 4) rfl ?_); refine ag_fix (.agg #[.int .i64 a0_0, .int .i64 a0_1, .int .i64 a0_2, .bool true]) (ex_load aT43 gb811 0 #[.int .i64 a0_0, .int .i64 a0_1, .int .i64 a0_2, .bool true] #[.int .i64 a0_0, .int .i64 a0_1, .int .i64 a0_2, .bool true] BKb811.out (by simp) rfl _ rfl rfl) rfl ?_)
            | (go_at_call 50; clear k822; refine (i_stip_right.calls a0_0 a0_1 a0_2 true true _ A813.out).mono ?_; rintro e_ w823 ⟨rfl, hb_⟩; replace BKb811 := hid (BKb811.out.below hb_ BKb811.out.lt); replace HL := hid (HL.out.trans (hb_.mono HL.out.size)); clear hb_)
            | ((with_reducible refine gate_d (N := 8) rfl ?_); refine ag_fix (.pointer (some ⟨gb811, 0, none⟩)) (ex_field 43 0 (.pointer (some ⟨gb811, 0, none⟩)) (.pointer (some ⟨gb811, 0, none⟩)) (fa43_0_0 gb811) _ rfl rfl) rfl ?_)
            | ((with_reducible refine gate_d (N := 9) rfl ?_); refine ag_fix (.int .i64 a0_0) (ex_get sT3 gb811 (0) (.int .i64 a0_0) (#[.int .i64 a0_0, .int .i64 a0_1, .int .i64 a0_2, .bool true]) BKb811.out rfl _ rfl rfl) rfl ?_)
            | ((with_reducible refine gate_d (N := 12) rfl ?_); refine ag_fix (.pointer (some ⟨gb811, 0, none⟩)) (ex_field 43 0 (.pointer (some ⟨gb811, 0, none⟩)) (.pointer (some ⟨gb811, 0, none⟩)) (fa43_0_0 gb811) _ rfl rfl) rfl ?_)
            | ((with_reducible refine gate_d (N := 13) rfl ?_); refine ag_fix (.int .i64 a0_0) (ex_get sT3 gb811 (0) (.int .i64 a0_0) (#[.int .i64 a0_0, .int .i64 a0_1, .int .i64 a0_2, .bool true]) BKb811.out rfl _ rfl rfl) rfl ?_)
            | ((with_reducible refine gate_d (N := 16) rfl ?_); refine ag_fix (.pointer (some ⟨gb811, 3, none⟩)) (ex_field 43 3 (.pointer (some ⟨gb811, 0, none⟩)) (.pointer (some ⟨gb811, 3, none⟩)) (fa43_3_0 gb811) _ rfl rfl) rfl ?_)
            | ((with_reducible refine gate_d (N := 17) rfl ?_); refine ag_fix (.bool true) (ex_get sT4 gb811 (3) (.bool true) (#[.int .i64 a0_0, .int .i64 a0_1, .int .i64 a0_2, .bool true]) BKb811.out rfl _ rfl rfl) rfl ?_))
          (try simp only [Act.put, List.setIfInBounds_toArray, List.set_cons_zero, List.set_cons_succ])
          go_ret
          exact ⟨by first | rfl | (simp; done) | (simp [*]; done), HL.out⟩
        | false =>
          rw [if_neg (show ¬ (false = true) by decide)] at H
          obtain rfl := Option.some.inj H
          clear H
          go_enter Try.func37, Try.ntmps37
          have k825 := True.intro
          go_wp2_with (first
            | ((with_reducible refine gate_d (N := 1) rfl ?_); obtain ⟨gb811, hgb811⟩ : ∃ g_, w.heap.size = g_ := ⟨_, rfl⟩; refine ag_box #[.int .i64 a0_0, .int .i64 a0_1, .int .i64 a0_2, .bool false] gb811 hgb811 rfl _ rfl rfl ?_; intro w824 hb_ hB_ hs_; have GEb811 : Hid (w.heap.size ≤ gb811) := hid (by have := HL.out.size; omega); replace HL := hid (HL.out.trans (hb_.mono GEb811.out)); have BKb811 := hid hB_; clear hb_ hB_ hs_ hgb811)
            | ((with_reducible refine gate_d (N := 4) rfl ?_); refine ag_fix (.agg #[.int .i64 a0_0, .int .i64 a0_1, .int .i64 a0_2, .bool false]) (ex_load aT43 gb811 0 #[.int .i64 a0_0, .int .i64 a0_1, .int .i64 a0_2, .bool false] #[.int .i64 a0_0, .int .i64 a0_1, .int .i64 a0_2, .bool false] BKb811.out (by simp) rfl _ rfl rfl) rfl ?_)
            | (go_at_call 50; clear k825; refine (i_stip_right.calls a0_0 a0_1 a0_2 false true _ A813.out).mono ?_; rintro e_ w826 ⟨rfl, hb_⟩; replace BKb811 := hid (BKb811.out.below hb_ BKb811.out.lt); replace HL := hid (HL.out.trans (hb_.mono HL.out.size)); clear hb_)
            | ((with_reducible refine gate_d (N := 8) rfl ?_); refine ag_fix (.pointer (some ⟨gb811, 0, none⟩)) (ex_field 43 0 (.pointer (some ⟨gb811, 0, none⟩)) (.pointer (some ⟨gb811, 0, none⟩)) (fa43_0_0 gb811) _ rfl rfl) rfl ?_)
            | ((with_reducible refine gate_d (N := 9) rfl ?_); refine ag_fix (.int .i64 a0_0) (ex_get sT3 gb811 (0) (.int .i64 a0_0) (#[.int .i64 a0_0, .int .i64 a0_1, .int .i64 a0_2, .bool false]) BKb811.out rfl _ rfl rfl) rfl ?_)
            | ((with_reducible refine gate_d (N := 12) rfl ?_); refine ag_fix (.pointer (some ⟨gb811, 0, none⟩)) (ex_field 43 0 (.pointer (some ⟨gb811, 0, none⟩)) (.pointer (some ⟨gb811, 0, none⟩)) (fa43_0_0 gb811) _ rfl rfl) rfl ?_)
            | ((with_reducible refine gate_d (N := 13) rfl ?_); refine ag_fix (.int .i64 a0_0) (ex_get sT3 gb811 (0) (.int .i64 a0_0) (#[.int .i64 a0_0, .int .i64 a0_1, .int .i64 a0_2, .bool false]) BKb811.out rfl _ rfl rfl) rfl ?_)
            | ((with_reducible refine gate_d (N := 16) rfl ?_); refine ag_fix (.pointer (some ⟨gb811, 3, none⟩)) (ex_field 43 3 (.pointer (some ⟨gb811, 0, none⟩)) (.pointer (some ⟨gb811, 3, none⟩)) (fa43_3_0 gb811) _ rfl rfl) rfl ?_)
            | ((with_reducible refine gate_d (N := 17) rfl ?_); refine ag_fix (.bool false) (ex_get sT4 gb811 (3) (.bool false) (#[.int .i64 a0_0, .int .i64 a0_1, .int .i64 a0_2, .bool false]) BKb811.out rfl _ rfl rfl) rfl ?_))
          (try simp only [Act.put, List.setIfInBounds_toArray, List.set_cons_zero, List.set_cons_succ])
          go_ret
          exact ⟨by first | rfl | (simp; done) | (simp [*]; done), HL.out⟩
      · rw [if_neg c819] at H
        have c819b0 : (a0_0 == 5) = false := beq_eq_false_iff_ne.mpr c819
        have c819b1 : (a0_0 != 5) = true := bne_iff_ne.mpr c819
        have hc819 := hid c819
        clear c819
        obtain rfl := Option.some.inj H
        clear H
        go_enter Try.func37, Try.ntmps37
        have k828 := True.intro
        go_wp2_with (first
          | ((with_reducible refine gate_d (N := 1) rfl ?_); obtain ⟨gb811, hgb811⟩ : ∃ g_, w.heap.size = g_ := ⟨_, rfl⟩; refine ag_box #[.int .i64 a0_0, .int .i64 a0_1, .int .i64 a0_2, .bool a0_3] gb811 hgb811 rfl _ rfl rfl ?_; intro w827 hb_ hB_ hs_; have GEb811 : Hid (w.heap.size ≤ gb811) := hid (by have := HL.out.size; omega); replace HL := hid (HL.out.trans (hb_.mono GEb811.out)); have BKb811 := hid hB_; clear hb_ hB_ hs_ hgb811)
          | ((with_reducible refine gate_d (N := 4) rfl ?_); refine ag_fix (.agg #[.int .i64 a0_0, .int .i64 a0_1, .int .i64 a0_2, .bool a0_3]) (ex_load aT43 gb811 0 #[.int .i64 a0_0, .int .i64 a0_1, .int .i64 a0_2, .bool a0_3] #[.int .i64 a0_0, .int .i64 a0_1, .int .i64 a0_2, .bool a0_3] BKb811.out (by simp) rfl _ rfl rfl) rfl ?_)
          | (go_at_call 50; clear k828; refine (i_stip_right.calls a0_0 a0_1 a0_2 a0_3 true _ A813.out).mono ?_; rintro e_ w829 ⟨rfl, hb_⟩; replace BKb811 := hid (BKb811.out.below hb_ BKb811.out.lt); replace HL := hid (HL.out.trans (hb_.mono HL.out.size)); clear hb_)
          | ((with_reducible refine gate_d (N := 8) rfl ?_); refine ag_fix (.pointer (some ⟨gb811, 0, none⟩)) (ex_field 43 0 (.pointer (some ⟨gb811, 0, none⟩)) (.pointer (some ⟨gb811, 0, none⟩)) (fa43_0_0 gb811) _ rfl rfl) rfl ?_)
          | ((with_reducible refine gate_d (N := 9) rfl ?_); refine ag_fix (.int .i64 a0_0) (ex_get sT3 gb811 (0) (.int .i64 a0_0) (#[.int .i64 a0_0, .int .i64 a0_1, .int .i64 a0_2, .bool a0_3]) BKb811.out rfl _ rfl rfl) rfl ?_)
          | ((with_reducible refine gate_d (N := 12) rfl ?_); refine ag_fix (.pointer (some ⟨gb811, 0, none⟩)) (ex_field 43 0 (.pointer (some ⟨gb811, 0, none⟩)) (.pointer (some ⟨gb811, 0, none⟩)) (fa43_0_0 gb811) _ rfl rfl) rfl ?_)
          | ((with_reducible refine gate_d (N := 13) rfl ?_); refine ag_fix (.int .i64 a0_0) (ex_get sT3 gb811 (0) (.int .i64 a0_0) (#[.int .i64 a0_0, .int .i64 a0_1, .int .i64 a0_2, .bool a0_3]) BKb811.out rfl _ rfl rfl) rfl ?_))
        (try simp only [Act.put, List.setIfInBounds_toArray, List.set_cons_zero, List.set_cons_succ])
        go_ret
        exact ⟨by first | rfl | (simp; done) | (simp [*]; done), HL.out⟩
  | false =>
    rw [if_neg (show ¬ (false = true) by decide)] at H
    obtain rfl := Option.some.inj H
    clear H
    go_enter Try.func37, Try.ntmps37
    have k831 := True.intro
    go_wp2_with (first
      | ((with_reducible refine gate_d (N := 1) rfl ?_); obtain ⟨gb811, hgb811⟩ : ∃ g_, w.heap.size = g_ := ⟨_, rfl⟩; refine ag_box #[.int .i64 a0_0, .int .i64 a0_1, .int .i64 a0_2, .bool a0_3] gb811 hgb811 rfl _ rfl rfl ?_; intro w830 hb_ hB_ hs_; have GEb811 : Hid (w.heap.size ≤ gb811) := hid (by have := HL.out.size; omega); replace HL := hid (HL.out.trans (hb_.mono GEb811.out)); have BKb811 := hid hB_; clear hb_ hB_ hs_ hgb811)
      | ((with_reducible refine gate_d (N := 4) rfl ?_); refine ag_fix (.agg #[.int .i64 a0_0, .int .i64 a0_1, .int .i64 a0_2, .bool a0_3]) (ex_load aT43 gb811 0 #[.int .i64 a0_0, .int .i64 a0_1, .int .i64 a0_2, .bool a0_3] #[.int .i64 a0_0, .int .i64 a0_1, .int .i64 a0_2, .bool a0_3] BKb811.out (by simp) rfl _ rfl rfl) rfl ?_)
      | (go_at_call 50; clear k831; refine (i_stip_right.calls a0_0 a0_1 a0_2 a0_3 false _ A813.out).mono ?_; rintro e_ w832 ⟨rfl, hb_⟩; replace BKb811 := hid (BKb811.out.below hb_ BKb811.out.lt); replace HL := hid (HL.out.trans (hb_.mono HL.out.size)); clear hb_))
    (try simp only [Act.put, List.setIfInBounds_toArray, List.set_cons_zero, List.set_cons_succ])
    go_ret
    exact ⟨by first | rfl | (simp; done) | (simp [*]; done), HL.out⟩
/-! i_stip_Plies: function 38 -/
def i_stip_Plies.f (a0_0 : Int) (a0_1 : Int) (a0_2 : Int) (a0_3 : Bool) : Option (Int) := (i_stip_right.f a0_0 a0_1 a0_2 a0_3).bind fun t834 => (if t834 = true then (if a0_0 = 5 then (if a0_3 = true then (some (wrap64 ((wrap64 (2 * a0_2)) + 1))) else (some (wrap64 (2 * a0_2)))) else (if a0_0 = 6 then (some (wrap64 (a0_2 + 1))) else (if a0_0 = 7 then (some a0_2) else (some 0)))) else (some (-1)))
set_option maxHeartbeats 40000000 in
set_option maxRecDepth 100000 in
theorem i_stip_Plies.calls (a0_0 : Int) (a0_1 : Int) (a0_2 : Int) (a0_3 : Bool) (r1 : Int) (w : World) (h : i_stip_Plies.f a0_0 a0_1 a0_2 a0_3 = some r1) :
    Calls Try.prog 38 #[.agg #[.int .i64 a0_0, .int .i64 a0_1, .int .i64 a0_2, .bool a0_3]] w fun e w' => e = .returned (.int .i64 r1) ∧ Below w.heap.size w w' := by
  have HL := hid (Below.refl w.heap.size w)
  have H : ((i_stip_right.f a0_0 a0_1 a0_2 a0_3).bind fun t834 => (if t834 = true then (if a0_0 = 5 then (if a0_3 = true then (some (wrap64 ((wrap64 (2 * a0_2)) + 1))) else (some (wrap64 (2 * a0_2)))) else (if a0_0 = 6 then (some (wrap64 (a0_2 + 1))) else (if a0_0 = 7 then (some a0_2) else (some 0)))) else (some (-1)))) = some r1 := h
  clear h
  replace H := Option.bind_eq_some_iff.mp H
  obtain ⟨t834, A835_, H⟩ := H
  replace H : (if t834 = true then (if a0_0 = 5 then (if a0_3 = true then (some (wrap64 ((wrap64 (2 * a0_2)) + 1))) else (some (wrap64 (2 * a0_2)))) else (if a0_0 = 6 then (some (wrap64 (a0_2 + 1))) else (if a0_0 = 7 then (some a0_2) else (some 0)))) else (some (-1))) = some r1 := H
  have A835 := hid A835_
  clear A835_
  cases t834 with
  | true =>
    rw [if_pos rfl] at H
    by_cases c837 : a0_0 = 5
    · rw [if_pos c837] at H
      have c837b0 : (a0_0 == 5) = true := beq_iff_eq.mpr c837
      have c837b1 : (a0_0 != 5) = false := bne_eq_false_iff_eq.mpr c837
      have hc837 := hid c837
      clear c837
      cases a0_3 with
      | true =>
        rw [if_pos rfl] at H
        obtain rfl := Option.some.inj H
        clear H
        go_enter Try.func38, Try.ntmps38
        have k840 := True.intro
        go_wp2_with (first
          | ((with_reducible refine gate_d (N := 1) rfl ?_); obtain ⟨gb833, hgb833⟩ : ∃ g_, w.heap.size = g_ := ⟨_, rfl⟩; refine ag_box #[.int .i64 a0_0, .int .i64 a0_1, .int .i64 a0_2, .bool true] gb833 hgb833 rfl _ rfl rfl ?_; intro w839 hb_ hB_ hs_; have GEb833 : Hid (w.heap.size ≤ gb833) := hid (by have := HL.out.size; omega); replace HL := hid (HL.out.trans (hb_.mono GEb833.out)); have BKb833 := hid hB_; clear hb_ hB_ hs_ hgb833)
          | ((with_reducible refine gate_d (N := 3) rfl ?_); refine ag_fix (.agg #[.int .i64 a0_0, .int .i64 a0_1, .int .i64 a0_2, .bool true]) (ex_load aT43 gb833 0 #[.int .i64 a0_0, .int .i64 a0_1, .int .i64 a0_2, .bool true] #[.int .i64 a0_0, .int .i64 a0_1, .int .i64 a0_2, .bool true] BKb833.out (by simp) rfl _ rfl rfl) rfl ?_)
          | (go_at_call 50; clear k840; refine (i_stip_right.calls a0_0 a0_1 a0_2 true true _ A835.out).mono ?_; rintro e_ w841 ⟨rfl, hb_⟩; replace BKb833 := hid (BKb833.out.below hb_ BKb833.out.lt); replace HL := hid (HL.out.trans (hb_.mono HL.out.size)); clear hb_)
          | ((with_reducible refine gate_d (N := 6) rfl ?_); refine ag_fix (.pointer (some ⟨gb833, 0, none⟩)) (ex_field 43 0 (.pointer (some ⟨gb833, 0, none⟩)) (.pointer (some ⟨gb833, 0, none⟩)) (fa43_0_0 gb833) _ rfl rfl) rfl ?_)
          | ((with_reducible refine gate_d (N := 7) rfl ?_); refine ag_fix (.int .i64 a0_0) (ex_get sT3 gb833 (0) (.int .i64 a0_0) (#[.int .i64 a0_0, .int .i64 a0_1, .int .i64 a0_2, .bool true]) BKb833.out rfl _ rfl rfl) rfl ?_)
          | ((with_reducible refine gate_d (N := 10) rfl ?_); refine ag_fix (.pointer (some ⟨gb833, 3, none⟩)) (ex_field 43 3 (.pointer (some ⟨gb833, 0, none⟩)) (.pointer (some ⟨gb833, 3, none⟩)) (fa43_3_0 gb833) _ rfl rfl) rfl ?_)
          | ((with_reducible refine gate_d (N := 11) rfl ?_); refine ag_fix (.bool true) (ex_get sT4 gb833 (3) (.bool true) (#[.int .i64 a0_0, .int .i64 a0_1, .int .i64 a0_2, .bool true]) BKb833.out rfl _ rfl rfl) rfl ?_)
          | ((with_reducible refine gate_d (N := 12) rfl ?_); refine ag_fix (.pointer (some ⟨gb833, 2, none⟩)) (ex_field 43 2 (.pointer (some ⟨gb833, 0, none⟩)) (.pointer (some ⟨gb833, 2, none⟩)) (fa43_2_0 gb833) _ rfl rfl) rfl ?_)
          | ((with_reducible refine gate_d (N := 13) rfl ?_); refine ag_fix (.int .i64 a0_2) (ex_get sT3 gb833 (2) (.int .i64 a0_2) (#[.int .i64 a0_0, .int .i64 a0_1, .int .i64 a0_2, .bool true]) BKb833.out rfl _ rfl rfl) rfl ?_))
        (try simp only [Act.put, List.setIfInBounds_toArray, List.set_cons_zero, List.set_cons_succ])
        go_ret
        exact ⟨by first | rfl | (simp; done) | (simp [*]; done), HL.out⟩
      | false =>
        rw [if_neg (show ¬ (false = true) by decide)] at H
        obtain rfl := Option.some.inj H
        clear H
        go_enter Try.func38, Try.ntmps38
        have k843 := True.intro
        go_wp2_with (first
          | ((with_reducible refine gate_d (N := 1) rfl ?_); obtain ⟨gb833, hgb833⟩ : ∃ g_, w.heap.size = g_ := ⟨_, rfl⟩; refine ag_box #[.int .i64 a0_0, .int .i64 a0_1, .int .i64 a0_2, .bool false] gb833 hgb833 rfl _ rfl rfl ?_; intro w842 hb_ hB_ hs_; have GEb833 : Hid (w.heap.size ≤ gb833) := hid (by have := HL.out.size; omega); replace HL := hid (HL.out.trans (hb_.mono GEb833.out)); have BKb833 := hid hB_; clear hb_ hB_ hs_ hgb833)
          | ((with_reducible refine gate_d (N := 3) rfl ?_); refine ag_fix (.agg #[.int .i64 a0_0, .int .i64 a0_1, .int .i64 a0_2, .bool false]) (ex_load aT43 gb833 0 #[.int .i64 a0_0, .int .i64 a0_1, .int .i64 a0_2, .bool false] #[.int .i64 a0_0, .int .i64 a0_1, .int .i64 a0_2, .bool false] BKb833.out (by simp) rfl _ rfl rfl) rfl ?_)
          | (go_at_call 50; clear k843; refine (i_stip_right.calls a0_0 a0_1 a0_2 false true _ A835.out).mono ?_; rintro e_ w844 ⟨rfl, hb_⟩; replace BKb833 := hid (BKb833.out.below hb_ BKb833.out.lt); replace HL := hid (HL.out.trans (hb_.mono HL.out.size)); clear hb_)
          | ((with_reducible refine gate_d (N := 6) rfl ?_); refine ag_fix (.pointer (some ⟨gb833, 0, none⟩)) (ex_field 43 0 (.pointer (some ⟨gb833, 0, none⟩)) (.pointer (some ⟨gb833, 0, none⟩)) (fa43_0_0 gb833) _ rfl rfl) rfl ?_)
          | ((with_reducible refine gate_d (N := 7) rfl ?_); refine ag_fix (.int .i64 a0_0) (ex_get sT3 gb833 (0) (.int .i64 a0_0) (#[.int .i64 a0_0, .int .i64 a0_1, .int .i64 a0_2, .bool false]) BKb833.out rfl _ rfl rfl) rfl ?_)
          | ((with_reducible refine gate_d (N := 10) rfl ?_); refine ag_fix (.pointer (some ⟨gb833, 3, none⟩)) (ex_field 43 3 (.pointer (some ⟨gb833, 0, none⟩)) (.pointer (some ⟨gb833, 3, none⟩)) (fa43_3_0 gb833) _ rfl rfl) rfl ?_)
          | ((with_reducible refine gate_d (N := 11) rfl ?_); refine ag_fix (.bool false) (ex_get sT4 gb833 (3) (.bool false) (#[.int .i64 a0_0, .int .i64 a0_1, .int .i64 a0_2, .bool false]) BKb833.out rfl _ rfl rfl) rfl ?_)
          | ((with_reducible refine gate_d (N := 16) rfl ?_); refine ag_fix (.pointer (some ⟨gb833, 2, none⟩)) (ex_field 43 2 (.pointer (some ⟨gb833, 0, none⟩)) (.pointer (some ⟨gb833, 2, none⟩)) (fa43_2_0 gb833) _ rfl rfl) rfl ?_)
          | ((with_reducible refine gate_d (N := 17) rfl ?_); refine ag_fix (.int .i64 a0_2) (ex_get sT3 gb833 (2) (.int .i64 a0_2) (#[.int .i64 a0_0, .int .i64 a0_1, .int .i64 a0_2, .bool false]) BKb833.out rfl _ rfl rfl) rfl ?_))
        (try simp only [Act.put, List.setIfInBounds_toArray, List.set_cons_zero, List.set_cons_succ])
        go_ret
        exact ⟨by first | rfl | (simp; done) | (simp [*]; done), HL.out⟩
    · rw [if_neg c837] at H
      have c837b0 : (a0_0 == 5) = false := beq_eq_false_iff_ne.mpr c837
      have c837b1 : (a0_0 != 5) = true := bne_iff_ne.mpr c837
      have hc837 := hid c837
      clear c837
      by_cases c845 : a0_0 = 6
      · rw [if_pos c845] at H
        have c845b0 : (a0_0 == 6) = true := beq_iff_eq.mpr c845
        have c845b1 : (a0_0 != 6) = false := bne_eq_false_iff_eq.mpr c845
        have hc845 := hid c845
        clear c845
        obtain rfl := Option.some.inj H
        clear H
        go_enter Try.func38, Try.ntmps38
        have k847 := True.intro
        go_wp2_with (first
          | ((with_reducible refine gate_d (N := 1) rfl ?_); obtain ⟨gb833, hgb833⟩ : ∃ g_, w.heap.size = g_ := ⟨_, rfl⟩; refine ag_box #[.int .i64 a0_0, .int .i64 a0_1, .int .i64 a0_2, .bool a0_3] gb833 hgb833 rfl _ rfl rfl ?_; intro w846 hb_ hB_ hs_; have GEb833 : Hid (w.heap.size ≤ gb833) := hid (by have := HL.out.size; omega); replace HL := hid (HL.out.trans (hb_.mono GEb833.out)); have BKb833 := hid hB_; clear hb_ hB_ hs_ hgb833)
          | ((with_reducible refine gate_d (N := 3) rfl ?_); refine ag_fix (.agg #[.int .i64 a0_0, .int .i64 a0_1, .int .i64 a0_2, .bool a0_3]) (ex_load aT43 gb833 0 #[.int .i64 a0_0, .int .i64 a0_1, .int .i64 a0_2, .bool a0_3] #[.int .i64 a0_0, .int .i64 a0_1, .int .i64 a0_2, .bool a0_3] BKb833.out (by simp) rfl _ rfl rfl) rfl ?_)
          | (go_at_call 50; clear k847; refine (i_stip_right.calls a0_0 a0_1 a0_2 a0_3 true _ A835.out).mono ?_; rintro e_ w848 ⟨rfl, hb_⟩; replace BKb833 := hid (BKb833.out.below hb_ BKb833.out.lt); replace HL := hid (HL.out.trans (hb_.mono HL.out.size)); clear hb_)
          | ((with_reducible refine gate_d (N := 6) rfl ?_); refine ag_fix (.pointer (some ⟨gb833, 0, none⟩)) (ex_field 43 0 (.pointer (some ⟨gb833, 0, none⟩)) (.pointer (some ⟨gb833, 0, none⟩)) (fa43_0_0 gb833) _ rfl rfl) rfl ?_)
          | ((with_reducible refine gate_d (N := 7) rfl ?_); refine ag_fix (.int .i64 a0_0) (ex_get sT3 gb833 (0) (.int .i64 a0_0) (#[.int .i64 a0_0, .int .i64 a0_1, .int .i64 a0_2, .bool a0_3]) BKb833.out rfl _ rfl rfl) rfl ?_)
          | ((with_reducible refine gate_d (N := 21) rfl ?_); refine ag_fix (.pointer (some ⟨gb833, 2, none⟩)) (ex_field 43 2 (.pointer (some ⟨gb833, 0, none⟩)) (.pointer (some ⟨gb833, 2, none⟩)) (fa43_2_0 gb833) _ rfl rfl) rfl ?_)
          | ((with_reducible refine gate_d (N := 22) rfl ?_); refine ag_fix (.int .i64 a0_2) (ex_get sT3 gb833 (2) (.int .i64 a0_2) (#[.int .i64 a0_0, .int .i64 a0_1, .int .i64 a0_2, .bool a0_3]) BKb833.out rfl _ rfl rfl) rfl ?_))
        (try simp only [Act.put, List.setIfInBounds_toArray, List.set_cons_zero, List.set_cons_succ])
        go_ret
        exact ⟨by first | rfl | (simp; done) | (simp [*]; done), HL.out⟩
      · rw [if_neg c845] at H
        have c845b0 : (a0_0 == 6) = false := beq_eq_false_iff_ne.mpr c845
        have c845b1 : (a0_0 != 6) = true := bne_iff_ne.mpr c845
        have hc845 := hid c845
        clear c845
        by_cases c849 : a0_0 = 7
        · rw [if_pos c849] at H
          have c849b0 : (a0_0 == 7) = true := beq_iff_eq.mpr c849
          have c849b1 : (a0_0 != 7) = false := bne_eq_false_iff_eq.mpr c849
          have hc849 := hid c849
          clear c849
          obtain rfl := Option.some.inj H
          clear H
          go_enter Try.func38, Try.ntmps38
          have k851 := True.intro
          go_wp2_with (first
            | ((with_reducible refine gate_d (N := 1) rfl ?_); obtain ⟨gb833, hgb833⟩ : ∃ g_, w.heap.size = g_ := ⟨_, rfl⟩; refine ag_box #[.int .i64 a0_0, .int .i64 a0_1, .int .i64 a0_2, .bool a0_3] gb833 hgb833 rfl _ rfl rfl ?_; intro w850 hb_ hB_ hs_; have GEb833 : Hid (w.heap.size ≤ gb833) := hid (by have := HL.out.size; omega); replace HL := hid (HL.out.trans (hb_.mono GEb833.out)); have BKb833 := hid hB_; clear hb_ hB_ hs_ hgb833)
            | ((with_reducible refine gate_d (N := 3) rfl ?_); refine ag_fix (.agg #[.int .i64 a0_0, .int .i64 a0_1, .int .i64 a0_2, .bool a0_3]) (ex_load aT43 gb833 0 #[.int .i64 a0_0, .int .i64 a0_1, .int .i64 a0_2, .bool a0_3] #[.int .i64 a0_0, .int .i64 a0_1, .int .i64 a0_2, .bool a0_3] BKb833.out (by simp) rfl _ rfl rfl) rfl ?_)
            | (go_at_call 50; clear k851; refine (i_stip_right.calls a0_0 a0_1 a0_2 a0_3 true _ A835.out).mono ?_; rintro e_ w852 ⟨rfl, hb_⟩; replace BKb833 := hid (BKb833.out.below hb_ BKb833.out.lt); replace HL := hid (HL.out.trans (hb_.mono HL.out.size)); clear hb_)
            | ((with_reducible refine gate_d (N := 6) rfl ?_); refine ag_fix (.pointer (some ⟨gb833, 0, none⟩)) (ex_field 43 0 (.pointer (some ⟨gb833, 0, none⟩)) (.pointer (some ⟨gb833, 0, none⟩)) (fa43_0_0 gb833) _ rfl rfl) rfl ?_)
            | ((with_reducible refine gate_d (N := 7) rfl ?_); refine ag_fix (.int .i64 a0_0) (ex_get sT3 gb833 (0) (.int .i64 a0_0) (#[.int .i64 a0_0, .int .i64 a0_1, .int .i64 a0_2, .bool a0_3]) BKb833.out rfl _ rfl rfl) rfl ?_)
            | ((with_reducible refine gate_d (N := 26) rfl ?_); refine ag_fix (.pointer (some ⟨gb833, 2, none⟩)) (ex_field 43 2 (.pointer (some ⟨gb833, 0, none⟩)) (.pointer (some ⟨gb833, 2, none⟩)) (fa43_2_0 gb833) _ rfl rfl) rfl ?_)
            | ((with_reducible refine gate_d (N := 27) rfl ?_); refine ag_fix (.int .i64 a0_2) (ex_get sT3 gb833 (2) (.int .i64 a0_2) (#[.int .i64 a0_0, .int .i64 a0_1, .int .i64 a0_2, .bool a0_3]) BKb833.out rfl _ rfl rfl) rfl ?_))
          (try simp only [Act.put, List.setIfInBounds_toArray, List.set_cons_zero, List.set_cons_succ])
          go_ret
          exact ⟨by first | rfl | (simp; done) | (simp [*]; done), HL.out⟩
        · rw [if_neg c849] at H
          have c849b0 : (a0_0 == 7) = false := beq_eq_false_iff_ne.mpr c849
          have c849b1 : (a0_0 != 7) = true := bne_iff_ne.mpr c849
          have hc849 := hid c849
          clear c849
          obtain rfl := Option.some.inj H
          clear H
          go_enter Try.func38, Try.ntmps38
          have k854 := True.intro
          go_wp2_with (first
            | ((with_reducible refine gate_d (N := 1) rfl ?_); obtain ⟨gb833, hgb833⟩ : ∃ g_, w.heap.size = g_ := ⟨_, rfl⟩; refine ag_box #[.int .i64 a0_0, .int .i64 a0_1, .int .i64 a0_2, .bool a0_3] gb833 hgb833 rfl _ rfl rfl ?_; intro w853 hb_ hB_ hs_; have GEb833 : Hid (w.heap.size ≤ gb833) := hid (by have := HL.out.size; omega); replace HL := hid (HL.out.trans (hb_.mono GEb833.out)); have BKb833 := hid hB_; clear hb_ hB_ hs_ hgb833)
            | ((with_reducible refine gate_d (N := 3) rfl ?_); refine ag_fix (.agg #[.int .i64 a0_0, .int .i64 a0_1, .int .i64 a0_2, .bool a0_3]) (ex_load aT43 gb833 0 #[.int .i64 a0_0, .int .i64 a0_1, .int .i64 a0_2, .bool a0_3] #[.int .i64 a0_0, .int .i64 a0_1, .int .i64 a0_2, .bool a0_3] BKb833.out (by simp) rfl _ rfl rfl) rfl ?_)
            | (go_at_call 50; clear k854; refine (i_stip_right.calls a0_0 a0_1 a0_2 a0_3 true _ A835.out).mono ?_; rintro e_ w855 ⟨rfl, hb_⟩; replace BKb833 := hid (BKb833.out.below hb_ BKb833.out.lt); replace HL := hid (HL.out.trans (hb_.mono HL.out.size)); clear hb_)
            | ((with_reducible refine gate_d (N := 6) rfl ?_); refine ag_fix (.pointer (some ⟨gb833, 0, none⟩)) (ex_field 43 0 (.pointer (some ⟨gb833, 0, none⟩)) (.pointer (some ⟨gb833, 0, none⟩)) (fa43_0_0 gb833) _ rfl rfl) rfl ?_)
            | ((with_reducible refine gate_d (N := 7) rfl ?_); refine ag_fix (.int .i64 a0_0) (ex_get sT3 gb833 (0) (.int .i64 a0_0) (#[.int .i64 a0_0, .int .i64 a0_1, .int .i64 a0_2, .bool a0_3]) BKb833.out rfl _ rfl rfl) rfl ?_))
          (try simp only [Act.put, List.setIfInBounds_toArray, List.set_cons_zero, List.set_cons_succ])
          go_ret
          exact ⟨by first | rfl | (simp; done) | (simp [*]; done), HL.out⟩
  | false =>
    rw [if_neg (show ¬ (false = true) by decide)] at H
    obtain rfl := Option.some.inj H
    clear H
    go_enter Try.func38, Try.ntmps38
    have k857 := True.intro
    go_wp2_with (first
      | ((with_reducible refine gate_d (N := 1) rfl ?_); obtain ⟨gb833, hgb833⟩ : ∃ g_, w.heap.size = g_ := ⟨_, rfl⟩; refine ag_box #[.int .i64 a0_0, .int .i64 a0_1, .int .i64 a0_2, .bool a0_3] gb833 hgb833 rfl _ rfl rfl ?_; intro w856 hb_ hB_ hs_; have GEb833 : Hid (w.heap.size ≤ gb833) := hid (by have := HL.out.size; omega); replace HL := hid (HL.out.trans (hb_.mono GEb833.out)); have BKb833 := hid hB_; clear hb_ hB_ hs_ hgb833)
      | ((with_reducible refine gate_d (N := 3) rfl ?_); refine ag_fix (.agg #[.int .i64 a0_0, .int .i64 a0_1, .int .i64 a0_2, .bool a0_3]) (ex_load aT43 gb833 0 #[.int .i64 a0_0, .int .i64 a0_1, .int .i64 a0_2, .bool a0_3] #[.int .i64 a0_0, .int .i64 a0_1, .int .i64 a0_2, .bool a0_3] BKb833.out (by simp) rfl _ rfl rfl) rfl ?_)
      | (go_at_call 50; clear k857; refine (i_stip_right.calls a0_0 a0_1 a0_2 a0_3 false _ A835.out).mono ?_; rintro e_ w858 ⟨rfl, hb_⟩; replace BKb833 := hid (BKb833.out.below hb_ BKb833.out.lt); replace HL := hid (HL.out.trans (hb_.mono HL.out.size)); clear hb_))
    (try simp only [Act.put, List.setIfInBounds_toArray, List.set_cons_zero, List.set_cons_succ])
    go_ret
    exact ⟨by first | rfl | (simp; done) | (simp [*]; done), HL.out⟩
/-! i_men_Other: function 39 -/
def i_men_Other.f (a0 : Int) : Option (Int) := if a0 = 0 then (some (wrap64 (1 - a0))) else (if a0 = 1 then (some (wrap64 (1 - a0))) else (some (-1)))
set_option maxHeartbeats 40000000 in
set_option maxRecDepth 100000 in
theorem i_men_Other.calls (a0 : Int) (r1 : Int) (w : World) (h : i_men_Other.f a0 = some r1) :
    Calls Try.prog 39 #[.int .i64 a0] w fun e w' => e = .returned (.int .i64 r1) ∧ w = w' := by
  have H : (if a0 = 0 then (some (wrap64 (1 - a0))) else (if a0 = 1 then (some (wrap64 (1 - a0))) else (some (-1)))) = some r1 := h
  clear h
  by_cases c859 : a0 = 0
  · rw [if_pos c859] at H
    have c859b0 : (a0 == 0) = true := beq_iff_eq.mpr c859
    have c859b1 : (a0 != 0) = false := bne_eq_false_iff_eq.mpr c859
    have hc859 := hid c859
    clear c859
    obtain rfl := Option.some.inj H
    clear H
    go_enter Try.func39, Try.ntmps39
    go_wp2_with fail
    (try simp only [Act.put, List.setIfInBounds_toArray, List.set_cons_zero, List.set_cons_succ])
    go_ret
    exact ⟨by first | rfl | (simp; done) | (simp [*]; done), rfl⟩
  · rw [if_neg c859] at H
    have c859b0 : (a0 == 0) = false := beq_eq_false_iff_ne.mpr c859
    have c859b1 : (a0 != 0) = true := bne_iff_ne.mpr c859
    have hc859 := hid c859
    clear c859
    by_cases c860 : a0 = 1
    · rw [if_pos c860] at H
      have c860b0 : (a0 == 1) = true := beq_iff_eq.mpr c860
      have c860b1 : (a0 != 1) = false := bne_eq_false_iff_eq.mpr c860
      have hc860 := hid c860
      clear c860
      obtain rfl := Option.some.inj H
      clear H
      go_enter Try.func39, Try.ntmps39
      go_wp2_with fail
      (try simp only [Act.put, List.setIfInBounds_toArray, List.set_cons_zero, List.set_cons_succ])
      go_ret
      exact ⟨by first | rfl | (simp; done) | (simp [*]; done), rfl⟩
    · rw [if_neg c860] at H
      have c860b0 : (a0 == 1) = false := beq_eq_false_iff_ne.mpr c860
      have c860b1 : (a0 != 1) = true := bne_iff_ne.mpr c860
      have hc860 := hid c860
      clear c860
      obtain rfl := Option.some.inj H
      clear H
      go_enter Try.func39, Try.ntmps39
      go_wp2_with fail
      (try simp only [Act.put, List.setIfInBounds_toArray, List.set_cons_zero, List.set_cons_succ])
      go_ret
      exact ⟨by first | rfl | (simp; done) | (simp [*]; done), rfl⟩
/-! i_stip_Mover: function 22 -/
def i_stip_Mover.f (a0_0 : Int) (a0_1 : Int) (a0_2 : Int) (a0_3 : Bool) (a1 : Int) (a2 : Int) : Option (Int) := (i_men_Other.f a1).bind fun t862 => (if t862 < 0 then (some (-1)) else (if a2 < 0 then (some (-1)) else ((i_stip_Plies.f a0_0 a0_1 a0_2 a0_3).bind fun t863 => (if a2 ≥ t863 then (some (-1)) else (if a0_0 = 5 then (if (Int.tmod a2 2) = 1 then (some t862) else (if a0_0 = 6 then (if a2 = a0_2 then (some t862) else (some a1)) else (some a1))) else (if a0_0 = 6 then (if a2 = a0_2 then (some t862) else (some a1)) else (some a1)))))))
set_option maxHeartbeats 40000000 in
set_option maxRecDepth 100000 in
theorem i_stip_Mover.calls (a0_0 : Int) (a0_1 : Int) (a0_2 : Int) (a0_3 : Bool) (a1 : Int) (a2 : Int) (r1 : Int) (w : World) (h : i_stip_Mover.f a0_0 a0_1 a0_2 a0_3 a1 a2 = some r1) :
    Calls Try.prog 22 #[.agg #[.int .i64 a0_0, .int .i64 a0_1, .int .i64 a0_2, .bool a0_3], .int .i64 a1, .int .i64 a2] w fun e w' => e = .returned (.int .i64 r1) ∧ Below w.heap.size w w' := by
  have HL := hid (Below.refl w.heap.size w)
  have H : ((i_men_Other.f a1).bind fun t862 => (if t862 < 0 then (some (-1)) else (if a2 < 0 then (some (-1)) else ((i_stip_Plies.f a0_0 a0_1 a0_2 a0_3).bind fun t863 => (if a2 ≥ t863 then (some (-1)) else (if a0_0 = 5 then (if (Int.tmod a2 2) = 1 then (some t862) else (if a0_0 = 6 then (if a2 = a0_2 then (some t862) else (some a1)) else (some a1))) else (if a0_0 = 6 then (if a2 = a0_2 then (some t862) else (some a1)) else (some a1)))))))) = some r1 := h
  clear h
  replace H := Option.bind_eq_some_iff.mp H
  obtain ⟨t862, A864_, H⟩ := H
  replace H : (if t862 < 0 then (some (-1)) else (if a2 < 0 then (some (-1)) else ((i_stip_Plies.f a0_0 a0_1 a0_2 a0_3).bind fun t863 => (if a2 ≥ t863 then (some (-1)) else (if a0_0 = 5 then (if (Int.tmod a2 2) = 1 then (some t862) else (if a0_0 = 6 then (if a2 = a0_2 then (some t862) else (some a1)) else (some a1))) else (if a0_0 = 6 then (if a2 = a0_2 then (some t862) else (some a1)) else (some a1))))))) = some r1 := H
  have A864 := hid A864_
  clear A864_
  by_cases c865 : t862 < 0
  · rw [if_pos c865] at H
    have c865b0 : decide (t862 < 0) = true := decide_eq_true c865
    have hc865 := hid c865
    clear c865
    obtain rfl := Option.some.inj H
    clear H
    go_enter Try.func22, Try.ntmps22
    have k867 := True.intro
    go_wp2_with (first
      | ((with_reducible refine gate_d (N := 3) rfl ?_); obtain ⟨gb861, hgb861⟩ : ∃ g_, w.heap.size = g_ := ⟨_, rfl⟩; refine ag_box #[.int .i64 a0_0, .int .i64 a0_1, .int .i64 a0_2, .bool a0_3] gb861 hgb861 rfl _ rfl rfl ?_; intro w866 hb_ hB_ hs_; have GEb861 : Hid (w.heap.size ≤ gb861) := hid (by have := HL.out.size; omega); replace HL := hid (HL.out.trans (hb_.mono GEb861.out)); have BKb861 := hid hB_; clear hb_ hB_ hs_ hgb861)
      | (go_at_call 39; clear k867; refine (i_men_Other.calls a1 t862 _ A864.out).mono ?_; rintro e_ w' ⟨rfl, rfl⟩))
    (try simp only [Act.put, List.setIfInBounds_toArray, List.set_cons_zero, List.set_cons_succ])
    go_ret
    exact ⟨by first | rfl | (simp; done) | (simp [*]; done), HL.out⟩
  · rw [if_neg c865] at H
    have c865b0 : decide (t862 < 0) = false := decide_eq_false c865
    have hc865 := hid c865
    clear c865
    by_cases c868 : a2 < 0
    · rw [if_pos c868] at H
      have c868b0 : decide (a2 < 0) = true := decide_eq_true c868
      have hc868 := hid c868
      clear c868
      obtain rfl := Option.some.inj H
      clear H
      go_enter Try.func22, Try.ntmps22
      have k870 := True.intro
      go_wp2_with (first
        | ((with_reducible refine gate_d (N := 3) rfl ?_); obtain ⟨gb861, hgb861⟩ : ∃ g_, w.heap.size = g_ := ⟨_, rfl⟩; refine ag_box #[.int .i64 a0_0, .int .i64 a0_1, .int .i64 a0_2, .bool a0_3] gb861 hgb861 rfl _ rfl rfl ?_; intro w869 hb_ hB_ hs_; have GEb861 : Hid (w.heap.size ≤ gb861) := hid (by have := HL.out.size; omega); replace HL := hid (HL.out.trans (hb_.mono GEb861.out)); have BKb861 := hid hB_; clear hb_ hB_ hs_ hgb861)
        | (go_at_call 39; clear k870; refine (i_men_Other.calls a1 t862 _ A864.out).mono ?_; rintro e_ w' ⟨rfl, rfl⟩))
      (try simp only [Act.put, List.setIfInBounds_toArray, List.set_cons_zero, List.set_cons_succ])
      go_ret
      exact ⟨by first | rfl | (simp; done) | (simp [*]; done), HL.out⟩
    · rw [if_neg c868] at H
      have c868b0 : decide (a2 < 0) = false := decide_eq_false c868
      have hc868 := hid c868
      clear c868
      replace H := Option.bind_eq_some_iff.mp H
      obtain ⟨t863, A871_, H⟩ := H
      replace H : (if a2 ≥ t863 then (some (-1)) else (if a0_0 = 5 then (if (Int.tmod a2 2) = 1 then (some t862) else (if a0_0 = 6 then (if a2 = a0_2 then (some t862) else (some a1)) else (some a1))) else (if a0_0 = 6 then (if a2 = a0_2 then (some t862) else (some a1)) else (some a1)))) = some r1 := H
      have A871 := hid A871_
      clear A871_
      by_cases c872 : a2 ≥ t863
      · rw [if_pos c872] at H
        have c872b0 : decide (t863 ≤ a2) = true := decide_eq_true c872
        have hc872 := hid c872
        clear c872
        obtain rfl := Option.some.inj H
        clear H
        go_enter Try.func22, Try.ntmps22
        have k874 := True.intro
        have k875 := True.intro
        go_wp2_with (first
          | ((with_reducible refine gate_d (N := 3) rfl ?_); obtain ⟨gb861, hgb861⟩ : ∃ g_, w.heap.size = g_ := ⟨_, rfl⟩; refine ag_box #[.int .i64 a0_0, .int .i64 a0_1, .int .i64 a0_2, .bool a0_3] gb861 hgb861 rfl _ rfl rfl ?_; intro w873 hb_ hB_ hs_; have GEb861 : Hid (w.heap.size ≤ gb861) := hid (by have := HL.out.size; omega); replace HL := hid (HL.out.trans (hb_.mono GEb861.out)); have BKb861 := hid hB_; clear hb_ hB_ hs_ hgb861)
          | (go_at_call 39; clear k874; refine (i_men_Other.calls a1 t862 _ A864.out).mono ?_; rintro e_ w' ⟨rfl, rfl⟩)
          | ((with_reducible refine gate_d (N := 18) rfl ?_); refine ag_fix (.agg #[.int .i64 a0_0, .int .i64 a0_1, .int .i64 a0_2, .bool a0_3]) (ex_load aT43 gb861 0 #[.int .i64 a0_0, .int .i64 a0_1, .int .i64 a0_2, .bool a0_3] #[.int .i64 a0_0, .int .i64 a0_1, .int .i64 a0_2, .bool a0_3] BKb861.out (by simp) rfl _ rfl rfl) rfl ?_)
          | (go_at_call 38; clear k875; refine (i_stip_Plies.calls a0_0 a0_1 a0_2 a0_3 t863 _ A871.out).mono ?_; rintro e_ w876 ⟨rfl, hb_⟩; replace BKb861 := hid (BKb861.out.below hb_ BKb861.out.lt); replace HL := hid (HL.out.trans (hb_.mono HL.out.size)); clear hb_))
        (try simp only [Act.put, List.setIfInBounds_toArray, List.set_cons_zero, List.set_cons_succ])
        go_ret
        exact ⟨by first | rfl | (simp; done) | (simp [*]; done), HL.out⟩
      · rw [if_neg c872] at H
        have c872b0 : decide (t863 ≤ a2) = false := decide_eq_false c872
        have hc872 := hid c872
        clear c872
        by_cases c877 : a0_0 = 5
        · rw [if_pos c877] at H
          have c877b0 : (a0_0 == 5) = true := beq_iff_eq.mpr c877
          have c877b1 : (a0_0 != 5) = false := bne_eq_false_iff_eq.mpr c877
          have hc877 := hid c877
          clear c877
          by_cases c878 : (Int.tmod a2 2) = 1
          · rw [if_pos c878] at H
            have c878b0 : ((Int.tmod a2 2) == 1) = true := beq_iff_eq.mpr c878
            have c878b1 : ((Int.tmod a2 2) != 1) = false := bne_eq_false_iff_eq.mpr c878
            have hc878 := hid c878
            clear c878
            obtain rfl := Option.some.inj H
            clear H
            go_enter Try.func22, Try.ntmps22
            have k880 := True.intro
            have k881 := True.intro
            go_wp2_with (first
              | ((with_reducible refine gate_d (N := 3) rfl ?_); obtain ⟨gb861, hgb861⟩ : ∃ g_, w.heap.size = g_ := ⟨_, rfl⟩; refine ag_box #[.int .i64 a0_0, .int .i64 a0_1, .int .i64 a0_2, .bool a0_3] gb861 hgb861 rfl _ rfl rfl ?_; intro w879 hb_ hB_ hs_; have GEb861 : Hid (w.heap.size ≤ gb861) := hid (by have := HL.out.size; omega); replace HL := hid (HL.out.trans (hb_.mono GEb861.out)); have BKb861 := hid hB_; clear hb_ hB_ hs_ hgb861)
              | (go_at_call 39; clear k880; refine (i_men_Other.calls a1 t862 _ A864.out).mono ?_; rintro e_ w' ⟨rfl, rfl⟩)
              | ((with_reducible refine gate_d (N := 18) rfl ?_); refine ag_fix (.agg #[.int .i64 a0_0, .int .i64 a0_1, .int .i64 a0_2, .bool a0_3]) (ex_load aT43 gb861 0 #[.int .i64 a0_0, .int .i64 a0_1, .int .i64 a0_2, .bool a0_3] #[.int .i64 a0_0, .int .i64 a0_1, .int .i64 a0_2, .bool a0_3] BKb861.out (by simp) rfl _ rfl rfl) rfl ?_)
              | (go_at_call 38; clear k881; refine (i_stip_Plies.calls a0_0 a0_1 a0_2 a0_3 t863 _ A871.out).mono ?_; rintro e_ w882 ⟨rfl, hb_⟩; replace BKb861 := hid (BKb861.out.below hb_ BKb861.out.lt); replace HL := hid (HL.out.trans (hb_.mono HL.out.size)); clear hb_)
              | ((with_reducible refine gate_d (N := 22) rfl ?_); refine ag_fix (.pointer (some ⟨gb861, 0, none⟩)) (ex_field 43 0 (.pointer (some ⟨gb861, 0, none⟩)) (.pointer (some ⟨gb861, 0, none⟩)) (fa43_0_0 gb861) _ rfl rfl) rfl ?_)
              | ((with_reducible refine gate_d (N := 23) rfl ?_); refine ag_fix (.int .i64 a0_0) (ex_get sT3 gb861 (0) (.int .i64 a0_0) (#[.int .i64 a0_0, .int .i64 a0_1, .int .i64 a0_2, .bool a0_3]) BKb861.out rfl _ rfl rfl) rfl ?_))
            (try simp only [Act.put, List.setIfInBounds_toArray, List.set_cons_zero, List.set_cons_succ])
            go_ret
            exact ⟨by first | rfl | (simp; done) | (simp [*]; done), HL.out⟩
          · rw [if_neg c878] at H
            have c878b0 : ((Int.tmod a2 2) == 1) = false := beq_eq_false_iff_ne.mpr c878
            have c878b1 : ((Int.tmod a2 2) != 1) = true := bne_iff_ne.mpr c878
            have hc878 := hid c878
            clear c878
            by_cases c883 : a0_0 = 6
            · rw [if_pos c883] at H
              exfalso
              clear H
              have := hc877.out; omega
            · rw [if_neg c883] at H
              have c883b0 : (a0_0 == 6) = false := beq_eq_false_iff_ne.mpr c883
              have c883b1 : (a0_0 != 6) = true := bne_iff_ne.mpr c883
              have hc883 := hid c883
              clear c883
              obtain rfl := Option.some.inj H
              clear H
              go_enter Try.func22, Try.ntmps22
              have k885 := True.intro
              have k886 := True.intro
              go_wp2_with (first
                | ((with_reducible refine gate_d (N := 3) rfl ?_); obtain ⟨gb861, hgb861⟩ : ∃ g_, w.heap.size = g_ := ⟨_, rfl⟩; refine ag_box #[.int .i64 a0_0, .int .i64 a0_1, .int .i64 a0_2, .bool a0_3] gb861 hgb861 rfl _ rfl rfl ?_; intro w884 hb_ hB_ hs_; have GEb861 : Hid (w.heap.size ≤ gb861) := hid (by have := HL.out.size; omega); replace HL := hid (HL.out.trans (hb_.mono GEb861.out)); have BKb861 := hid hB_; clear hb_ hB_ hs_ hgb861)
                | (go_at_call 39; clear k885; refine (i_men_Other.calls a1 t862 _ A864.out).mono ?_; rintro e_ w' ⟨rfl, rfl⟩)
                | ((with_reducible refine gate_d (N := 18) rfl ?_); refine ag_fix (.agg #[.int .i64 a0_0, .int .i64 a0_1, .int .i64 a0_2, .bool a0_3]) (ex_load aT43 gb861 0 #[.int .i64 a0_0, .int .i64 a0_1, .int .i64 a0_2, .bool a0_3] #[.int .i64 a0_0, .int .i64 a0_1, .int .i64 a0_2, .bool a0_3] BKb861.out (by simp) rfl _ rfl rfl) rfl ?_)
                | (go_at_call 38; clear k886; refine (i_stip_Plies.calls a0_0 a0_1 a0_2 a0_3 t863 _ A871.out).mono ?_; rintro e_ w887 ⟨rfl, hb_⟩; replace BKb861 := hid (BKb861.out.below hb_ BKb861.out.lt); replace HL := hid (HL.out.trans (hb_.mono HL.out.size)); clear hb_)
                | ((with_reducible refine gate_d (N := 22) rfl ?_); refine ag_fix (.pointer (some ⟨gb861, 0, none⟩)) (ex_field 43 0 (.pointer (some ⟨gb861, 0, none⟩)) (.pointer (some ⟨gb861, 0, none⟩)) (fa43_0_0 gb861) _ rfl rfl) rfl ?_)
                | ((with_reducible refine gate_d (N := 23) rfl ?_); refine ag_fix (.int .i64 a0_0) (ex_get sT3 gb861 (0) (.int .i64 a0_0) (#[.int .i64 a0_0, .int .i64 a0_1, .int .i64 a0_2, .bool a0_3]) BKb861.out rfl _ rfl rfl) rfl ?_)
                | ((with_reducible refine gate_d (N := 31) rfl ?_); refine ag_fix (.pointer (some ⟨gb861, 0, none⟩)) (ex_field 43 0 (.pointer (some ⟨gb861, 0, none⟩)) (.pointer (some ⟨gb861, 0, none⟩)) (fa43_0_0 gb861) _ rfl rfl) rfl ?_)
                | ((with_reducible refine gate_d (N := 32) rfl ?_); refine ag_fix (.int .i64 a0_0) (ex_get sT3 gb861 (0) (.int .i64 a0_0) (#[.int .i64 a0_0, .int .i64 a0_1, .int .i64 a0_2, .bool a0_3]) BKb861.out rfl _ rfl rfl) rfl ?_))
              (try simp only [Act.put, List.setIfInBounds_toArray, List.set_cons_zero, List.set_cons_succ])
              go_ret
              exact ⟨by first | rfl | (simp; done) | (simp [*]; done), HL.out⟩
        · rw [if_neg c877] at H
          have c877b0 : (a0_0 == 5) = false := beq_eq_false_iff_ne.mpr c877
          have c877b1 : (a0_0 != 5) = true := bne_iff_ne.mpr c877
          have hc877 := hid c877
          clear c877
          by_cases c888 : a0_0 = 6
          · rw [if_pos c888] at H
            have c888b0 : (a0_0 == 6) = true := beq_iff_eq.mpr c888
            have c888b1 : (a0_0 != 6) = false := bne_eq_false_iff_eq.mpr c888
            have hc888 := hid c888
            clear c888
            by_cases c889 : a2 = a0_2
            · rw [if_pos c889] at H
              have c889b0 : (a2 == a0_2) = true := beq_iff_eq.mpr c889
              have c889b1 : (a2 != a0_2) = false := bne_eq_false_iff_eq.mpr c889
              have hc889 := hid c889
              clear c889
              obtain rfl := Option.some.inj H
              clear H
              go_enter Try.func22, Try.ntmps22
              have k891 := True.intro
              have k892 := True.intro
              go_wp2_with (first
                | ((with_reducible refine gate_d (N := 3) rfl ?_); obtain ⟨gb861, hgb861⟩ : ∃ g_, w.heap.size = g_ := ⟨_, rfl⟩; refine ag_box #[.int .i64 a0_0, .int .i64 a0_1, .int .i64 a0_2, .bool a0_3] gb861 hgb861 rfl _ rfl rfl ?_; intro w890 hb_ hB_ hs_; have GEb861 : Hid (w.heap.size ≤ gb861) := hid (by have := HL.out.size; omega); replace HL := hid (HL.out.trans (hb_.mono GEb861.out)); have BKb861 := hid hB_; clear hb_ hB_ hs_ hgb861)
                | (go_at_call 39; clear k891; refine (i_men_Other.calls a1 t862 _ A864.out).mono ?_; rintro e_ w' ⟨rfl, rfl⟩)
                | ((with_reducible refine gate_d (N := 18) rfl ?_); refine ag_fix (.agg #[.int .i64 a0_0, .int .i64 a0_1, .int .i64 a0_2, .bool a0_3]) (ex_load aT43 gb861 0 #[.int .i64 a0_0, .int .i64 a0_1, .int .i64 a0_2, .bool a0_3] #[.int .i64 a0_0, .int .i64 a0_1, .int .i64 a0_2, .bool a0_3] BKb861.out (by simp) rfl _ rfl rfl) rfl ?_)
                | (go_at_call 38; clear k892; refine (i_stip_Plies.calls a0_0 a0_1 a0_2 a0_3 t863 _ A871.out).mono ?_; rintro e_ w893 ⟨rfl, hb_⟩; replace BKb861 := hid (BKb861.out.below hb_ BKb861.out.lt); replace HL := hid (HL.out.trans (hb_.mono HL.out.size)); clear hb_)
                | ((with_reducible refine gate_d (N := 22) rfl ?_); refine ag_fix (.pointer (some ⟨gb861, 0, none⟩)) (ex_field 43 0 (.pointer (some ⟨gb861, 0, none⟩)) (.pointer (some ⟨gb861, 0, none⟩)) (fa43_0_0 gb861) _ rfl rfl) rfl ?_)
                | ((with_reducible refine gate_d (N := 23) rfl ?_); refine ag_fix (.int .i64 a0_0) (ex_get sT3 gb861 (0) (.int .i64 a0_0) (#[.int .i64 a0_0, .int .i64 a0_1, .int .i64 a0_2, .bool a0_3]) BKb861.out rfl _ rfl rfl) rfl ?_)
                | ((with_reducible refine gate_d (N := 31) rfl ?_); refine ag_fix (.pointer (some ⟨gb861, 0, none⟩)) (ex_field 43 0 (.pointer (some ⟨gb861, 0, none⟩)) (.pointer (some ⟨gb861, 0, none⟩)) (fa43_0_0 gb861) _ rfl rfl) rfl ?_)
                | ((with_reducible refine gate_d (N := 32) rfl ?_); refine ag_fix (.int .i64 a0_0) (ex_get sT3 gb861 (0) (.int .i64 a0_0) (#[.int .i64 a0_0, .int .i64 a0_1, .int .i64 a0_2, .bool a0_3]) BKb861.out rfl _ rfl rfl) rfl ?_)
                | ((with_reducible refine gate_d (N := 36) rfl ?_); refine ag_fix (.pointer (some ⟨gb861, 2, none⟩)) (ex_field 43 2 (.pointer (some ⟨gb861, 0, none⟩)) (.pointer (some ⟨gb861, 2, none⟩)) (fa43_2_0 gb861) _ rfl rfl) rfl ?_)
                | ((with_reducible refine gate_d (N := 37) rfl ?_); refine ag_fix (.int .i64 a0_2) (ex_get sT3 gb861 (2) (.int .i64 a0_2) (#[.int .i64 a0_0, .int .i64 a0_1, .int .i64 a0_2, .bool a0_3]) BKb861.out rfl _ rfl rfl) rfl ?_))
              (try simp only [Act.put, List.setIfInBounds_toArray, List.set_cons_zero, List.set_cons_succ])
              go_ret
              exact ⟨by first | rfl | (simp; done) | (simp [*]; done), HL.out⟩
            · rw [if_neg c889] at H
              have c889b0 : (a2 == a0_2) = false := beq_eq_false_iff_ne.mpr c889
              have c889b1 : (a2 != a0_2) = true := bne_iff_ne.mpr c889
              have hc889 := hid c889
              clear c889
              obtain rfl := Option.some.inj H
              clear H
              go_enter Try.func22, Try.ntmps22
              have k895 := True.intro
              have k896 := True.intro
              go_wp2_with (first
                | ((with_reducible refine gate_d (N := 3) rfl ?_); obtain ⟨gb861, hgb861⟩ : ∃ g_, w.heap.size = g_ := ⟨_, rfl⟩; refine ag_box #[.int .i64 a0_0, .int .i64 a0_1, .int .i64 a0_2, .bool a0_3] gb861 hgb861 rfl _ rfl rfl ?_; intro w894 hb_ hB_ hs_; have GEb861 : Hid (w.heap.size ≤ gb861) := hid (by have := HL.out.size; omega); replace HL := hid (HL.out.trans (hb_.mono GEb861.out)); have BKb861 := hid hB_; clear hb_ hB_ hs_ hgb861)
                | (go_at_call 39; clear k895; refine (i_men_Other.calls a1 t862 _ A864.out).mono ?_; rintro e_ w' ⟨rfl, rfl⟩)
                | ((with_reducible refine gate_d (N := 18) rfl ?_); refine ag_fix (.agg #[.int .i64 a0_0, .int .i64 a0_1, .int .i64 a0_2, .bool a0_3]) (ex_load aT43 gb861 0 #[.int .i64 a0_0, .int .i64 a0_1, .int .i64 a0_2, .bool a0_3] #[.int .i64 a0_0, .int .i64 a0_1, .int .i64 a0_2, .bool a0_3] BKb861.out (by simp) rfl _ rfl rfl) rfl ?_)
                | (go_at_call 38; clear k896; refine (i_stip_Plies.calls a0_0 a0_1 a0_2 a0_3 t863 _ A871.out).mono ?_; rintro e_ w897 ⟨rfl, hb_⟩; replace BKb861 := hid (BKb861.out.below hb_ BKb861.out.lt); replace HL := hid (HL.out.trans (hb_.mono HL.out.size)); clear hb_)
                | ((with_reducible refine gate_d (N := 22) rfl ?_); refine ag_fix (.pointer (some ⟨gb861, 0, none⟩)) (ex_field 43 0 (.pointer (some ⟨gb861, 0, none⟩)) (.pointer (some ⟨gb861, 0, none⟩)) (fa43_0_0 gb861) _ rfl rfl) rfl ?_)
                | ((with_reducible refine gate_d (N := 23) rfl ?_); refine ag_fix (.int .i64 a0_0) (ex_get sT3 gb861 (0) (.int .i64 a0_0) (#[.int .i64 a0_0, .int .i64 a0_1, .int .i64 a0_2, .bool a0_3]) BKb861.out rfl _ rfl rfl) rfl ?_)
                | ((with_reducible refine gate_d (N := 31) rfl ?_); refine ag_fix (.pointer (some ⟨gb861, 0, none⟩)) (ex_field 43 0 (.pointer (some ⟨gb861, 0, none⟩)) (.pointer (some ⟨gb861, 0, none⟩)) (fa43_0_0 gb861) _ rfl rfl) rfl ?_)
                | ((with_reducible refine gate_d (N := 32) rfl ?_); refine ag_fix (.int .i64 a0_0) (ex_get sT3 gb861 (0) (.int .i64 a0_0) (#[.int .i64 a0_0, .int .i64 a0_1, .int .i64 a0_2, .bool a0_3]) BKb861.out rfl _ rfl rfl) rfl ?_)
                | ((with_reducible refine gate_d (N := 36) rfl ?_); refine ag_fix (.pointer (some ⟨gb861, 2, none⟩)) (ex_field 43 2 (.pointer (some ⟨gb861, 0, none⟩)) (.pointer (some ⟨gb861, 2, none⟩)) (fa43_2_0 gb861) _ rfl rfl) rfl ?_)
                | ((with_reducible refine gate_d (N := 37) rfl ?_); refine ag_fix (.int .i64 a0_2) (ex_get sT3 gb861 (2) (.int .i64 a0_2) (#[.int .i64 a0_0, .int .i64 a0_1, .int .i64 a0_2, .bool a0_3]) BKb861.out rfl _ rfl rfl) rfl ?_))
              (try simp only [Act.put, List.setIfInBounds_toArray, List.set_cons_zero, List.set_cons_succ])
              go_ret
              exact ⟨by first | rfl | (simp; done) | (simp [*]; done), HL.out⟩
          · rw [if_neg c888] at H
            have c888b0 : (a0_0 == 6) = false := beq_eq_false_iff_ne.mpr c888
            have c888b1 : (a0_0 != 6) = true := bne_iff_ne.mpr c888
            have hc888 := hid c888
            clear c888
            obtain rfl := Option.some.inj H
            clear H
            go_enter Try.func22, Try.ntmps22
            have k899 := True.intro
            have k900 := True.intro
            go_wp2_with (first
              | ((with_reducible refine gate_d (N := 3) rfl ?_); obtain ⟨gb861, hgb861⟩ : ∃ g_, w.heap.size = g_ := ⟨_, rfl⟩; refine ag_box #[.int .i64 a0_0, .int .i64 a0_1, .int .i64 a0_2, .bool a0_3] gb861 hgb861 rfl _ rfl rfl ?_; intro w898 hb_ hB_ hs_; have GEb861 : Hid (w.heap.size ≤ gb861) := hid (by have := HL.out.size; omega); replace HL := hid (HL.out.trans (hb_.mono GEb861.out)); have BKb861 := hid hB_; clear hb_ hB_ hs_ hgb861)
              | (go_at_call 39; clear k899; refine (i_men_Other.calls a1 t862 _ A864.out).mono ?_; rintro e_ w' ⟨rfl, rfl⟩)
              | ((with_reducible refine gate_d (N := 18) rfl ?_); refine ag_fix (.agg #[.int .i64 a0_0, .int .i64 a0_1, .int .i64 a0_2, .bool a0_3]) (ex_load aT43 gb861 0 #[.int .i64 a0_0, .int .i64 a0_1, .int .i64 a0_2, .bool a0_3] #[.int .i64 a0_0, .int .i64 a0_1, .int .i64 a0_2, .bool a0_3] BKb861.out (by simp) rfl _ rfl rfl) rfl ?_)
              | (go_at_call 38; clear k900; refine (i_stip_Plies.calls a0_0 a0_1 a0_2 a0_3 t863 _ A871.out).mono ?_; rintro e_ w901 ⟨rfl, hb_⟩; replace BKb861 := hid (BKb861.out.below hb_ BKb861.out.lt); replace HL := hid (HL.out.trans (hb_.mono HL.out.size)); clear hb_)
              | ((with_reducible refine gate_d (N := 22) rfl ?_); refine ag_fix (.pointer (some ⟨gb861, 0, none⟩)) (ex_field 43 0 (.pointer (some ⟨gb861, 0, none⟩)) (.pointer (some ⟨gb861, 0, none⟩)) (fa43_0_0 gb861) _ rfl rfl) rfl ?_)
              | ((with_reducible refine gate_d (N := 23) rfl ?_); refine ag_fix (.int .i64 a0_0) (ex_get sT3 gb861 (0) (.int .i64 a0_0) (#[.int .i64 a0_0, .int .i64 a0_1, .int .i64 a0_2, .bool a0_3]) BKb861.out rfl _ rfl rfl) rfl ?_)
              | ((with_reducible refine gate_d (N := 31) rfl ?_); refine ag_fix (.pointer (some ⟨gb861, 0, none⟩)) (ex_field 43 0 (.pointer (some ⟨gb861, 0, none⟩)) (.pointer (some ⟨gb861, 0, none⟩)) (fa43_0_0 gb861) _ rfl rfl) rfl ?_)
              | ((with_reducible refine gate_d (N := 32) rfl ?_); refine ag_fix (.int .i64 a0_0) (ex_get sT3 gb861 (0) (.int .i64 a0_0) (#[.int .i64 a0_0, .int .i64 a0_1, .int .i64 a0_2, .bool a0_3]) BKb861.out rfl _ rfl rfl) rfl ?_))
            (try simp only [Act.put, List.setIfInBounds_toArray, List.set_cons_zero, List.set_cons_succ])
            go_ret
            exact ⟨by first | rfl | (simp; done) | (simp [*]; done), HL.out⟩
/-! i_alfilref15_Right: function 23 -/
def i_alfilref15_Right.f (a0_0 : Int) (a0_1 : Int) (a0_2 : Int) (a0_3 : Bool) : Option (Bool) := if a0_0 < 1 then (some false) else (if a0_0 > 8 then (some false) else (if a0_2 < 0 then (some false) else (if a0_2 > 64 then (some false) else (if a0_0 = 8 then (if a0_1 = 0 then (if a0_2 > 0 then (some (!a0_3)) else (some false)) else (some false)) else (if a0_1 = 1 then (if a0_3 = true then (some (a0_0 == 5)) else (some (decide (a0_2 > 0)))) else (if a0_1 = 2 then (if a0_3 = true then (some (a0_0 == 5)) else (some (decide (a0_2 > 0)))) else (some false)))))))
set_option maxHeartbeats 40000000 in
set_option maxRecDepth 100000 in
theorem i_alfilref15_Right.calls (a0_0 : Int) (a0_1 : Int) (a0_2 : Int) (a0_3 : Bool) (r1 : Bool) (w : World) (h : i_alfilref15_Right.f a0_0 a0_1 a0_2 a0_3 = some r1) :
    Calls Try.prog 23 #[.agg #[.int .i64 a0_0, .int .i64 a0_1, .int .i64 a0_2, .bool a0_3]] w fun e w' => e = .returned (.bool r1) ∧ Below w.heap.size w w' := by
  have HL := hid (Below.refl w.heap.size w)
  have H : (if a0_0 < 1 then (some false) else (if a0_0 > 8 then (some false) else (if a0_2 < 0 then (some false) else (if a0_2 > 64 then (some false) else (if a0_0 = 8 then (if a0_1 = 0 then (if a0_2 > 0 then (some (!a0_3)) else (some false)) else (some false)) else (if a0_1 = 1 then (if a0_3 = true then (some (a0_0 == 5)) else (some (decide (a0_2 > 0)))) else (if a0_1 = 2 then (if a0_3 = true then (some (a0_0 == 5)) else (some (decide (a0_2 > 0)))) else (some false)))))))) = some r1 := h
  clear h
  by_cases c903 : a0_0 < 1
  · rw [if_pos c903] at H
    have c903b0 : decide (a0_0 < 1) = true := decide_eq_true c903
    have hc903 := hid c903
    clear c903
    obtain rfl := Option.some.inj H
    clear H
    go_enter Try.func23, Try.ntmps23
    go_wp2_with (first
      | ((with_reducible refine gate_d (N := 1) rfl ?_); obtain ⟨gb902, hgb902⟩ : ∃ g_, w.heap.size = g_ := ⟨_, rfl⟩; refine ag_box #[.int .i64 a0_0, .int .i64 a0_1, .int .i64 a0_2, .bool a0_3] gb902 hgb902 rfl _ rfl rfl ?_; intro w904 hb_ hB_ hs_; have GEb902 : Hid (w.heap.size ≤ gb902) := hid (by have := HL.out.size; omega); replace HL := hid (HL.out.trans (hb_.mono GEb902.out)); have BKb902 := hid hB_; clear hb_ hB_ hs_ hgb902)
      | ((with_reducible refine gate_d (N := 3) rfl ?_); refine ag_fix (.pointer (some ⟨gb902, 0, none⟩)) (ex_field 43 0 (.pointer (some ⟨gb902, 0, none⟩)) (.pointer (some ⟨gb902, 0, none⟩)) (fa43_0_0 gb902) _ rfl rfl) rfl ?_)
      | ((with_reducible refine gate_d (N := 4) rfl ?_); refine ag_fix (.int .i64 a0_0) (ex_get sT3 gb902 (0) (.int .i64 a0_0) (#[.int .i64 a0_0, .int .i64 a0_1, .int .i64 a0_2, .bool a0_3]) BKb902.out rfl _ rfl rfl) rfl ?_))
    (try simp only [Act.put, List.setIfInBounds_toArray, List.set_cons_zero, List.set_cons_succ])
    go_ret
    exact ⟨by first | rfl | (simp; done) | (simp [*]; done), HL.out⟩
  · rw [if_neg c903] at H
    have c903b0 : decide (a0_0 < 1) = false := decide_eq_false c903
    have hc903 := hid c903
    clear c903
    by_cases c905 : a0_0 > 8
    · rw [if_pos c905] at H
      have c905b0 : decide (8 < a0_0) = true := decide_eq_true c905
      have hc905 := hid c905
      clear c905
      obtain rfl := Option.some.inj H
      clear H
      go_enter Try.func23, Try.ntmps23
      go_wp2_with (first
        | ((with_reducible refine gate_d (N := 1) rfl ?_); obtain ⟨gb902, hgb902⟩ : ∃ g_, w.heap.size = g_ := ⟨_, rfl⟩; refine ag_box #[.int .i64 a0_0, .int .i64 a0_1, .int .i64 a0_2, .bool a0_3] gb902 hgb902 rfl _ rfl rfl ?_; intro w906 hb_ hB_ hs_; have GEb902 : Hid (w.heap.size ≤ gb902) := hid (by have := HL.out.size; omega); replace HL := hid (HL.out.trans (hb_.mono GEb902.out)); have BKb902 := hid hB_; clear hb_ hB_ hs_ hgb902)
        | ((with_reducible refine gate_d (N := 3) rfl ?_); refine ag_fix (.pointer (some ⟨gb902, 0, none⟩)) (ex_field 43 0 (.pointer (some ⟨gb902, 0, none⟩)) (.pointer (some ⟨gb902, 0, none⟩)) (fa43_0_0 gb902) _ rfl rfl) rfl ?_)
        | ((with_reducible refine gate_d (N := 4) rfl ?_); refine ag_fix (.int .i64 a0_0) (ex_get sT3 gb902 (0) (.int .i64 a0_0) (#[.int .i64 a0_0, .int .i64 a0_1, .int .i64 a0_2, .bool a0_3]) BKb902.out rfl _ rfl rfl) rfl ?_)
        | ((with_reducible refine gate_d (N := 7) rfl ?_); refine ag_fix (.pointer (some ⟨gb902, 0, none⟩)) (ex_field 43 0 (.pointer (some ⟨gb902, 0, none⟩)) (.pointer (some ⟨gb902, 0, none⟩)) (fa43_0_0 gb902) _ rfl rfl) rfl ?_)
        | ((with_reducible refine gate_d (N := 8) rfl ?_); refine ag_fix (.int .i64 a0_0) (ex_get sT3 gb902 (0) (.int .i64 a0_0) (#[.int .i64 a0_0, .int .i64 a0_1, .int .i64 a0_2, .bool a0_3]) BKb902.out rfl _ rfl rfl) rfl ?_))
      (try simp only [Act.put, List.setIfInBounds_toArray, List.set_cons_zero, List.set_cons_succ])
      go_ret
      exact ⟨by first | rfl | (simp; done) | (simp [*]; done), HL.out⟩
    · rw [if_neg c905] at H
      have c905b0 : decide (8 < a0_0) = false := decide_eq_false c905
      have hc905 := hid c905
      clear c905
      by_cases c907 : a0_2 < 0
      · rw [if_pos c907] at H
        have c907b0 : decide (a0_2 < 0) = true := decide_eq_true c907
        have hc907 := hid c907
        clear c907
        obtain rfl := Option.some.inj H
        clear H
        go_enter Try.func23, Try.ntmps23
        go_wp2_with (first
          | ((with_reducible refine gate_d (N := 1) rfl ?_); obtain ⟨gb902, hgb902⟩ : ∃ g_, w.heap.size = g_ := ⟨_, rfl⟩; refine ag_box #[.int .i64 a0_0, .int .i64 a0_1, .int .i64 a0_2, .bool a0_3] gb902 hgb902 rfl _ rfl rfl ?_; intro w908 hb_ hB_ hs_; have GEb902 : Hid (w.heap.size ≤ gb902) := hid (by have := HL.out.size; omega); replace HL := hid (HL.out.trans (hb_.mono GEb902.out)); have BKb902 := hid hB_; clear hb_ hB_ hs_ hgb902)
          | ((with_reducible refine gate_d (N := 3) rfl ?_); refine ag_fix (.pointer (some ⟨gb902, 0, none⟩)) (ex_field 43 0 (.pointer (some ⟨gb902, 0, none⟩)) (.pointer (some ⟨gb902, 0, none⟩)) (fa43_0_0 gb902) _ rfl rfl) rfl ?_)
          | ((with_reducible refine gate_d (N := 4) rfl ?_); refine ag_fix (.int .i64 a0_0) (ex_get sT3 gb902 (0) (.int .i64 a0_0) (#[.int .i64 a0_0, .int .i64 a0_1, .int .i64 a0_2, .bool a0_3]) BKb902.out rfl _ rfl rfl) rfl ?_)
          | ((with_reducible refine gate_d (N := 7) rfl ?_); refine ag_fix (.pointer (some ⟨gb902, 0, none⟩)) (ex_field 43 0 (.pointer (some ⟨gb902, 0, none⟩)) (.pointer (some ⟨gb902, 0, none⟩)) (fa43_0_0 gb902) _ rfl rfl) rfl ?_)
          | ((with_reducible refine gate_d (N := 8) rfl ?_); refine ag_fix (.int .i64 a0_0) (ex_get sT3 gb902 (0) (.int .i64 a0_0) (#[.int .i64 a0_0, .int .i64 a0_1, .int .i64 a0_2, .bool a0_3]) BKb902.out rfl _ rfl rfl) rfl ?_)
          | ((with_reducible refine gate_d (N := 12) rfl ?_); refine ag_fix (.pointer (some ⟨gb902, 2, none⟩)) (ex_field 43 2 (.pointer (some ⟨gb902, 0, none⟩)) (.pointer (some ⟨gb902, 2, none⟩)) (fa43_2_0 gb902) _ rfl rfl) rfl ?_)
          | ((with_reducible refine gate_d (N := 13) rfl ?_); refine ag_fix (.int .i64 a0_2) (ex_get sT3 gb902 (2) (.int .i64 a0_2) (#[.int .i64 a0_0, .int .i64 a0_1, .int .i64 a0_2, .bool a0_3]) BKb902.out rfl _ rfl rfl) rfl ?_))
        (try simp only [Act.put, List.setIfInBounds_toArray, List.set_cons_zero, List.set_cons_succ])
        go_ret
        exact ⟨by first | rfl | (simp; done) | (simp [*]; done), HL.out⟩
      · rw [if_neg c907] at H
        have c907b0 : decide (a0_2 < 0) = false := decide_eq_false c907
        have hc907 := hid c907
        clear c907
        by_cases c909 : a0_2 > 64
        · rw [if_pos c909] at H
          have c909b0 : decide (64 < a0_2) = true := decide_eq_true c909
          have hc909 := hid c909
          clear c909
          obtain rfl := Option.some.inj H
          clear H
          go_enter Try.func23, Try.ntmps23
          go_wp2_with (first
            | ((with_reducible refine gate_d (N := 1) rfl ?_); obtain ⟨gb902, hgb902⟩ : ∃ g_, w.heap.size = g_ := ⟨_, rfl⟩; refine ag_box #[.int .i64 a0_0, .int .i64 a0_1, .int .i64 a0_2, .bool a0_3] gb902 hgb902 rfl _ rfl rfl ?_; intro w910 hb_ hB_ hs_; have GEb902 : Hid (w.heap.size ≤ gb902) := hid (by have := HL.out.size; omega); replace HL := hid (HL.out.trans (hb_.mono GEb902.out)); have BKb902 := hid hB_; clear hb_ hB_ hs_ hgb902)
            | ((with_reducible refine gate_d (N := 3) rfl ?_); refine ag_fix (.pointer (some ⟨gb902, 0, none⟩)) (ex_field 43 0 (.pointer (some ⟨gb902, 0, none⟩)) (.pointer (some ⟨gb902, 0, none⟩)) (fa43_0_0 gb902) _ rfl rfl) rfl ?_)
            | ((with_reducible refine gate_d (N := 4) rfl ?_); refine ag_fix (.int .i64 a0_0) (ex_get sT3 gb902 (0) (.int .i64 a0_0) (#[.int .i64 a0_0, .int .i64 a0_1, .int .i64 a0_2, .bool a0_3]) BKb902.out rfl _ rfl rfl) rfl ?_)
            | ((with_reducible refine gate_d (N := 7) rfl ?_); refine ag_fix (.pointer (some ⟨gb902, 0, none⟩)) (ex_field 43 0 (.pointer (some ⟨gb902, 0, none⟩)) (.pointer (some ⟨gb902, 0, none⟩)) (fa43_0_0 gb902) _ rfl rfl) rfl ?_)
            | ((with_reducible refine gate_d (N := 8) rfl ?_); refine ag_fix (.int .i64 a0_0) (ex_get sT3 gb902 (0) (.int .i64 a0_0) (#[.int .i64 a0_0, .int .i64 a0_1, .int .i64 a0_2, .bool a0_3]) BKb902.out rfl _ rfl rfl) rfl ?_)
            | ((with_reducible refine gate_d (N := 12) rfl ?_); refine ag_fix (.pointer (some ⟨gb902, 2, none⟩)) (ex_field 43 2 (.pointer (some ⟨gb902, 0, none⟩)) (.pointer (some ⟨gb902, 2, none⟩)) (fa43_2_0 gb902) _ rfl rfl) rfl ?_)
            | ((with_reducible refine gate_d (N := 13) rfl ?_); refine ag_fix (.int .i64 a0_2) (ex_get sT3 gb902 (2) (.int .i64 a0_2) (#[.int .i64 a0_0, .int .i64 a0_1, .int .i64 a0_2, .bool a0_3]) BKb902.out rfl _ rfl rfl) rfl ?_)
            | ((with_reducible refine gate_d (N := 17) rfl ?_); refine ag_fix (.pointer (some ⟨gb902, 2, none⟩)) (ex_field 43 2 (.pointer (some ⟨gb902, 0, none⟩)) (.pointer (some ⟨gb902, 2, none⟩)) (fa43_2_0 gb902) _ rfl rfl) rfl ?_)
            | ((with_reducible refine gate_d (N := 18) rfl ?_); refine ag_fix (.int .i64 a0_2) (ex_get sT3 gb902 (2) (.int .i64 a0_2) (#[.int .i64 a0_0, .int .i64 a0_1, .int .i64 a0_2, .bool a0_3]) BKb902.out rfl _ rfl rfl) rfl ?_))
          (try simp only [Act.put, List.setIfInBounds_toArray, List.set_cons_zero, List.set_cons_succ])
          go_ret
          exact ⟨by first | rfl | (simp; done) | (simp [*]; done), HL.out⟩
        · rw [if_neg c909] at H
          have c909b0 : decide (64 < a0_2) = false := decide_eq_false c909
          have hc909 := hid c909
          clear c909
          by_cases c911 : a0_0 = 8
          · rw [if_pos c911] at H
            have c911b0 : (a0_0 == 8) = true := beq_iff_eq.mpr c911
            have c911b1 : (a0_0 != 8) = false := bne_eq_false_iff_eq.mpr c911
            have hc911 := hid c911
            clear c911
            by_cases c912 : a0_1 = 0
            · rw [if_pos c912] at H
              have c912b0 : (a0_1 == 0) = true := beq_iff_eq.mpr c912
              have c912b1 : (a0_1 != 0) = false := bne_eq_false_iff_eq.mpr c912
              have hc912 := hid c912
              clear c912
              by_cases c913 : a0_2 > 0
              · rw [if_pos c913] at H
                have c913b0 : decide (0 < a0_2) = true := decide_eq_true c913
                have hc913 := hid c913
                clear c913
                obtain rfl := Option.some.inj H
                clear H
                go_enter Try.func23, Try.ntmps23
                go_wp2_with (first
                  | ((with_reducible refine gate_d (N := 1) rfl ?_); obtain ⟨gb902, hgb902⟩ : ∃ g_, w.heap.size = g_ := ⟨_, rfl⟩; refine ag_box #[.int .i64 a0_0, .int .i64 a0_1, .int .i64 a0_2, .bool a0_3] gb902 hgb902 rfl _ rfl rfl ?_; intro w914 hb_ hB_ hs_; have GEb902 : Hid (w.heap.size ≤ gb902) := hid (by have := HL.out.size; omega); replace HL := hid (HL.out.trans (hb_.mono GEb902.out)); have BKb902 := hid hB_; clear hb_ hB_ hs_ hgb902)
                  | ((with_reducible refine gate_d (N := 3) rfl ?_); refine ag_fix (.pointer (some ⟨gb902, 0, none⟩)) (ex_field 43 0 (.pointer (some ⟨gb902, 0, none⟩)) (.pointer (some ⟨gb902, 0, none⟩)) (fa43_0_0 gb902) _ rfl rfl) rfl ?_)
                  | ((with_reducible refine gate_d (N := 4) rfl ?_); refine ag_fix (.int .i64 a0_0) (ex_get sT3 gb902 (0) (.int .i64 a0_0) (#[.int .i64 a0_0, .int .i64 a0_1, .int .i64 a0_2, .bool a0_3]) BKb902.out rfl _ rfl rfl) rfl ?_)
                  | ((with_reducible refine gate_d (N := 7) rfl ?_); refine ag_fix (.pointer (some ⟨gb902, 0, none⟩)) (ex_field 43 0 (.pointer (some ⟨gb902, 0, none⟩)) (.pointer (some ⟨gb902, 0, none⟩)) (fa43_0_0 gb902) _ rfl rfl) rfl ?_)
                  | ((with_reducible refine gate_d (N := 8) rfl ?_); refine ag_fix (.int .i64 a0_0) (ex_get sT3 gb902 (0) (.int .i64 a0_0) (#[.int .i64 a0_0, .int .i64 a0_1, .int .i64 a0_2, .bool a0_3]) BKb902.out rfl _ rfl rfl) rfl ?_)
                  | ((with_reducible refine gate_d (N := 12) rfl ?_); refine ag_fix (.pointer (some ⟨gb902, 2, none⟩)) (ex_field 43 2 (.pointer (some ⟨gb902, 0, none⟩)) (.pointer (some ⟨gb902, 2, none⟩)) (fa43_2_0 gb902) _ rfl rfl) rfl ?_)
                  | ((with_reducible refine gate_d (N := 13) rfl ?_); refine ag_fix (.int .i64 a0_2) (ex_get sT3 gb902 (2) (.int .i64 a0_2) (#[.int .i64 a0_0, .int .i64 a0_1, .int .i64 a0_2, .bool a0_3]) BKb902.out rfl _ rfl rfl) rfl ?_)
                  | ((with_reducible refine gate_d (N := 17) rfl ?_); refine ag_fix (.pointer (some ⟨gb902, 2, none⟩)) (ex_field 43 2 (.pointer (some ⟨gb902, 0, none⟩)) (.pointer (some ⟨gb902, 2, none⟩)) (fa43_2_0 gb902) _ rfl rfl) rfl ?_)
                  | ((with_reducible refine gate_d (N := 18) rfl ?_); refine ag_fix (.int .i64 a0_2) (ex_get sT3 gb902 (2) (.int .i64 a0_2) (#[.int .i64 a0_0, .int .i64 a0_1, .int .i64 a0_2, .bool a0_3]) BKb902.out rfl _ rfl rfl) rfl ?_)
                  | ((with_reducible refine gate_d (N := 21) rfl ?_); refine ag_fix (.pointer (some ⟨gb902, 0, none⟩)) (ex_field 43 0 (.pointer (some ⟨gb902, 0, none⟩)) (.pointer (some ⟨gb902, 0, none⟩)) (fa43_0_0 gb902) _ rfl rfl) rfl ?_)
                  | ((with_reducible refine gate_d (N := 22) rfl ?_); refine ag_fix (.int .i64 a0_0) (ex_get sT3 gb902 (0) (.int .i64 a0_0) (#[.int .i64 a0_0, .int .i64 a0_1, .int .i64 a0_2, .bool a0_3]) BKb902.out rfl _ rfl rfl) rfl ?_)
                  | ((with_reducible refine gate_d (N := 24) rfl ?_); refine ag_fix (.pointer (some ⟨gb902, 1, none⟩)) (ex_field 43 1 (.pointer (some ⟨gb902, 0, none⟩)) (.pointer (some ⟨gb902, 1, none⟩)) (fa43_1_0 gb902) _ rfl rfl) rfl ?_)
                  | ((with_reducible refine gate_d (N := 25) rfl ?_); refine ag_fix (.int .i64 a0_1) (ex_get sT3 gb902 (1) (.int .i64 a0_1) (#[.int .i64 a0_0, .int .i64 a0_1, .int .i64 a0_2, .bool a0_3]) BKb902.out rfl _ rfl rfl) rfl ?_)
                  | ((with_reducible refine gate_d (N := 28) rfl ?_); refine ag_fix (.pointer (some ⟨gb902, 2, none⟩)) (ex_field 43 2 (.pointer (some ⟨gb902, 0, none⟩)) (.pointer (some ⟨gb902, 2, none⟩)) (fa43_2_0 gb902) _ rfl rfl) rfl ?_)
                  | ((with_reducible refine gate_d (N := 29) rfl ?_); refine ag_fix (.int .i64 a0_2) (ex_get sT3 gb902 (2) (.int .i64 a0_2) (#[.int .i64 a0_0, .int .i64 a0_1, .int .i64 a0_2, .bool a0_3]) BKb902.out rfl _ rfl rfl) rfl ?_)
                  | ((with_reducible refine gate_d (N := 33) rfl ?_); refine ag_fix (.pointer (some ⟨gb902, 3, none⟩)) (ex_field 43 3 (.pointer (some ⟨gb902, 0, none⟩)) (.pointer (some ⟨gb902, 3, none⟩)) (fa43_3_0 gb902) _ rfl rfl) rfl ?_)
                  | ((with_reducible refine gate_d (N := 34) rfl ?_); refine ag_fix (.bool a0_3) (ex_get sT4 gb902 (3) (.bool a0_3) (#[.int .i64 a0_0, .int .i64 a0_1, .int .i64 a0_2, .bool a0_3]) BKb902.out rfl _ rfl rfl) rfl ?_))
                (try simp only [Act.put, List.setIfInBounds_toArray, List.set_cons_zero, List.set_cons_succ])
                go_ret
                exact ⟨by first | rfl | (simp; done) | (simp [*]; done), HL.out⟩
              · rw [if_neg c913] at H
                have c913b0 : decide (0 < a0_2) = false := decide_eq_false c913
                have hc913 := hid c913
                clear c913
                obtain rfl := Option.some.inj H
                clear H
                go_enter Try.func23, Try.ntmps23
                go_wp2_with (first
                  | ((with_reducible refine gate_d (N := 1) rfl ?_); obtain ⟨gb902, hgb902⟩ : ∃ g_, w.heap.size = g_ := ⟨_, rfl⟩; refine ag_box #[.int .i64 a0_0, .int .i64 a0_1, .int .i64 a0_2, .bool a0_3] gb902 hgb902 rfl _ rfl rfl ?_; intro w915 hb_ hB_ hs_; have GEb902 : Hid (w.heap.size ≤ gb902) := hid (by have := HL.out.size; omega); replace HL := hid (HL.out.trans (hb_.mono GEb902.out)); have BKb902 := hid hB_; clear hb_ hB_ hs_ hgb902)
                  | ((with_reducible refine gate_d (N := 3) rfl ?_); refine ag_fix (.pointer (some ⟨gb902, 0, none⟩)) (ex_field 43 0 (.pointer (some ⟨gb902, 0, none⟩)) (.pointer (some ⟨gb902, 0, none⟩)) (fa43_0_0 gb902) _ rfl rfl) rfl ?_)
                  | ((with_reducible refine gate_d (N := 4) rfl ?_); refine ag_fix (.int .i64 a0_0) (ex_get sT3 gb902 (0) (.int .i64 a0_0) (#[.int .i64 a0_0, .int .i64 a0_1, .int .i64 a0_2, .bool a0_3]) BKb902.out rfl _ rfl rfl) rfl ?_)
                  | ((with_reducible refine gate_d (N := 7) rfl ?_); refine ag_fix (.pointer (some ⟨gb902, 0, none⟩)) (ex_field 43 0 (.pointer (some ⟨gb902, 0, none⟩)) (.pointer (some ⟨gb902, 0, none⟩)) (fa43_0_0 gb902) _ rfl rfl) rfl ?_)
                  | ((with_reducible refine gate_d (N := 8) rfl ?_); refine ag_fix (.int .i64 a0_0) (ex_get sT3 gb902 (0) (.int .i64 a0_0) (#[.int .i64 a0_0, .int .i64 a0_1, .int .i64 a0_2, .bool a0_3]) BKb902.out rfl _ rfl rfl) rfl ?_)
                  | ((with_reducible refine gate_d (N := 12) rfl ?_); refine ag_fix (.pointer (some ⟨gb902, 2, none⟩)) (ex_field 43 2 (.pointer (some ⟨gb902, 0, none⟩)) (.pointer (some ⟨gb902, 2, none⟩)) (fa43_2_0 gb902) _ rfl rfl) rfl ?_)
                  | ((with_reducible refine gate_d (N := 13) rfl ?_); refine ag_fix (.int .i64 a0_2) (ex_get sT3 gb902 (2) (.int .i64 a0_2) (#[.int .i64 a0_0, .int .i64 a0_1, .int .i64 a0_2, .bool a0_3]) BKb902.out rfl _ rfl rfl) rfl ?_)
                  | ((with_reducible refine gate_d (N := 17) rfl ?_); refine ag_fix (.pointer (some ⟨gb902, 2, none⟩)) (ex_field 43 2 (.pointer (some ⟨gb902, 0, none⟩)) (.pointer (some ⟨gb902, 2, none⟩)) (fa43_2_0 gb902) _ rfl rfl) rfl ?_)
                  | ((with_reducible refine gate_d (N := 18) rfl ?_); refine ag_fix (.int .i64 a0_2) (ex_get sT3 gb902 (2) (.int .i64 a0_2) (#[.int .i64 a0_0, .int .i64 a0_1, .int .i64 a0_2, .bool a0_3]) BKb902.out rfl _ rfl rfl) rfl ?_)
                  | ((with_reducible refine gate_d (N := 21) rfl ?_); refine ag_fix (.pointer (some ⟨gb902, 0, none⟩)) (ex_field 43 0 (.pointer (some ⟨gb902, 0, none⟩)) (.pointer (some ⟨gb902, 0, none⟩)) (fa43_0_0 gb902) _ rfl rfl) rfl ?_)
                  | ((with_reducible refine gate_d (N := 22) rfl ?_); refine ag_fix (.int .i64 a0_0) (ex_get sT3 gb902 (0) (.int .i64 a0_0) (#[.int .i64 a0_0, .int .i64 a0_1, .int .i64 a0_2, .bool a0_3]) BKb902.out rfl _ rfl rfl) rfl ?_)
                  | ((with_reducible refine gate_d (N := 24) rfl ?_); refine ag_fix (.pointer (some ⟨gb902, 1, none⟩)) (ex_field 43 1 (.pointer (some ⟨gb902, 0, none⟩)) (.pointer (some ⟨gb902, 1, none⟩)) (fa43_1_0 gb902) _ rfl rfl) rfl ?_)
                  | ((with_reducible refine gate_d (N := 25) rfl ?_); refine ag_fix (.int .i64 a0_1) (ex_get sT3 gb902 (1) (.int .i64 a0_1) (#[.int .i64 a0_0, .int .i64 a0_1, .int .i64 a0_2, .bool a0_3]) BKb902.out rfl _ rfl rfl) rfl ?_)
                  | ((with_reducible refine gate_d (N := 28) rfl ?_); refine ag_fix (.pointer (some ⟨gb902, 2, none⟩)) (ex_field 43 2 (.pointer (some ⟨gb902, 0, none⟩)) (.pointer (some ⟨gb902, 2, none⟩)) (fa43_2_0 gb902) _ rfl rfl) rfl ?_)
                  | ((with_reducible refine gate_d (N := 29) rfl ?_); refine ag_fix (.int .i64 a0_2) (ex_get sT3 gb902 (2) (.int .i64 a0_2) (#[.int .i64 a0_0, .int .i64 a0_1, .int .i64 a0_2, .bool a0_3]) BKb902.out rfl _ rfl rfl) rfl ?_))
                (try simp only [Act.put, List.setIfInBounds_toArray, List.set_cons_zero, List.set_cons_succ])
                go_ret
                exact ⟨by first | rfl | (simp; done) | (simp [*]; done), HL.out⟩
            · rw [if_neg c912] at H
              have c912b0 : (a0_1 == 0) = false := beq_eq_false_iff_ne.mpr c912
              have c912b1 : (a0_1 != 0) = true := bne_iff_ne.mpr c912
              have hc912 := hid c912
              clear c912
              obtain rfl := Option.some.inj H
              clear H
              go_enter Try.func23, Try.ntmps23
              go_wp2_with (first
                | ((with_reducible refine gate_d (N := 1) rfl ?_); obtain ⟨gb902, hgb902⟩ : ∃ g_, w.heap.size = g_ := ⟨_, rfl⟩; refine ag_box #[.int .i64 a0_0, .int .i64 a0_1, .int .i64 a0_2, .bool a0_3] gb902 hgb902 rfl _ rfl rfl ?_; intro w916 hb_ hB_ hs_; have GEb902 : Hid (w.heap.size ≤ gb902) := hid (by have := HL.out.size; omega); replace HL := hid (HL.out.trans (hb_.mono GEb902.out)); have BKb902 := hid hB_; clear hb_ hB_ hs_ hgb902)
                | ((with_reducible refine gate_d (N := 3) rfl ?_); refine ag_fix (.pointer (some ⟨gb902, 0, none⟩)) (ex_field 43 0 (.pointer (some ⟨gb902, 0, none⟩)) (.pointer (some ⟨gb902, 0, none⟩)) (fa43_0_0 gb902) _ rfl rfl) rfl ?_)
                | ((with_reducible refine gate_d (N := 4) rfl ?_); refine ag_fix (.int .i64 a0_0) (ex_get sT3 gb902 (0) (.int .i64 a0_0) (#[.int .i64 a0_0, .int .i64 a0_1, .int .i64 a0_2, .bool a0_3]) BKb902.out rfl _ rfl rfl) rfl ?_)
                | ((with_reducible refine gate_d (N := 7) rfl ?_); refine ag_fix (.pointer (some ⟨gb902, 0, none⟩)) (ex_field 43 0 (.pointer (some ⟨gb902, 0, none⟩)) (.pointer (some ⟨gb902, 0, none⟩)) (fa43_0_0 gb902) _ rfl rfl) rfl ?_)
                | ((with_reducible refine gate_d (N := 8) rfl ?_); refine ag_fix (.int .i64 a0_0) (ex_get sT3 gb902 (0) (.int .i64 a0_0) (#[.int .i64 a0_0, .int .i64 a0_1, .int .i64 a0_2, .bool a0_3]) BKb902.out rfl _ rfl rfl) rfl ?_)
                | ((with_reducible refine gate_d (N := 12) rfl ?_); refine ag_fix (.pointer (some ⟨gb902, 2, none⟩)) (ex_field 43 2 (.pointer (some ⟨gb902, 0, none⟩)) (.pointer (some ⟨gb902, 2, none⟩)) (fa43_2_0 gb902) _ rfl rfl) rfl ?_)
                | ((with_reducible refine gate_d (N := 13) rfl ?_); refine ag_fix (.int .i64 a0_2) (ex_get sT3 gb902 (2) (.int .i64 a0_2) (#[.int .i64 a0_0, .int .i64 a0_1, .int .i64 a0_2, .bool a0_3]) BKb902.out rfl _ rfl rfl) rfl ?_)
                | ((with_reducible refine gate_d (N := 17) rfl ?_); refine ag_fix (.pointer (some ⟨gb902, 2, none⟩)) (ex_field 43 2 (.pointer (some ⟨gb902, 0, none⟩)) (.pointer (some ⟨gb902, 2, none⟩)) (fa43_2_0 gb902) _ rfl rfl) rfl ?_)
                | ((with_reducible refine gate_d (N := 18) rfl ?_); refine ag_fix (.int .i64 a0_2) (ex_get sT3 gb902 (2) (.int .i64 a0_2) (#[.int .i64 a0_0, .int .i64 a0_1, .int .i64 a0_2, .bool a0_3]) BKb902.out rfl _ rfl rfl) rfl ?_)
                | ((with_reducible refine gate_d (N := 21) rfl ?_); refine ag_fix (.pointer (some ⟨gb902, 0, none⟩)) (ex_field 43 0 (.pointer (some ⟨gb902, 0, none⟩)) (.pointer (some ⟨gb902, 0, none⟩)) (fa43_0_0 gb902) _ rfl rfl) rfl ?_)
                | ((with_reducible refine gate_d (N := 22) rfl ?_); refine ag_fix (.int .i64 a0_0) (ex_get sT3 gb902 (0) (.int .i64 a0_0) (#[.int .i64 a0_0, .int .i64 a0_1, .int .i64 a0_2, .bool a0_3]) BKb902.out rfl _ rfl rfl) rfl ?_)
                | ((with_reducible refine gate_d (N := 24) rfl ?_); refine ag_fix (.pointer (some ⟨gb902, 1, none⟩)) (ex_field 43 1 (.pointer (some ⟨gb902, 0, none⟩)) (.pointer (some ⟨gb902, 1, none⟩)) (fa43_1_0 gb902) _ rfl rfl) rfl ?_)
                | ((with_reducible refine gate_d (N := 25) rfl ?_); refine ag_fix (.int .i64 a0_1) (ex_get sT3 gb902 (1) (.int .i64 a0_1) (#[.int .i64 a0_0, .int .i64 a0_1, .int .i64 a0_2, .bool a0_3]) BKb902.out rfl _ rfl rfl) rfl ?_))
              (try simp only [Act.put, List.setIfInBounds_toArray, List.set_cons_zero, List.set_cons_succ])
              go_ret
              exact ⟨by first | rfl | (simp; done) | (simp [*]; done), HL.out⟩
          · rw [if_neg c911] at H
            have c911b0 : (a0_0 == 8) = false := beq_eq_false_iff_ne.mpr c911
            have c911b1 : (a0_0 != 8) = true := bne_iff_ne.mpr c911
            have hc911 := hid c911
            clear c911
            by_cases c917 : a0_1 = 1
            · rw [if_pos c917] at H
              have c917b0 : (a0_1 == 1) = true := beq_iff_eq.mpr c917
              have c917b1 : (a0_1 != 1) = false := bne_eq_false_iff_eq.mpr c917
              have hc917 := hid c917
              clear c917
              cases a0_3 with
              | true =>
                rw [if_pos rfl] at H
                obtain rfl := Option.some.inj H
                clear H
                go_enter Try.func23, Try.ntmps23
                go_wp2_with (first
                  | ((with_reducible refine gate_d (N := 1) rfl ?_); obtain ⟨gb902, hgb902⟩ : ∃ g_, w.heap.size = g_ := ⟨_, rfl⟩; refine ag_box #[.int .i64 a0_0, .int .i64 a0_1, .int .i64 a0_2, .bool true] gb902 hgb902 rfl _ rfl rfl ?_; intro w919 hb_ hB_ hs_; have GEb902 : Hid (w.heap.size ≤ gb902) := hid (by have := HL.out.size; omega); replace HL := hid (HL.out.trans (hb_.mono GEb902.out)); have BKb902 := hid hB_; clear hb_ hB_ hs_ hgb902)
                  | ((with_reducible refine gate_d (N := 3) rfl ?_); refine ag_fix (.pointer (some ⟨gb902, 0, none⟩)) (ex_field 43 0 (.pointer (some ⟨gb902, 0, none⟩)) (.pointer (some ⟨gb902, 0, none⟩)) (fa43_0_0 gb902) _ rfl rfl) rfl ?_)
                  | ((with_reducible refine gate_d (N := 4) rfl ?_); refine ag_fix (.int .i64 a0_0) (ex_get sT3 gb902 (0) (.int .i64 a0_0) (#[.int .i64 a0_0, .int .i64 a0_1, .int .i64 a0_2, .bool true]) BKb902.out rfl _ rfl rfl) rfl ?_)
                  | ((with_reducible refine gate_d (N := 7) rfl ?_); refine ag_fix (.pointer (some ⟨gb902, 0, none⟩)) (ex_field 43 0 (.pointer (some ⟨gb902, 0, none⟩)) (.pointer (some ⟨gb902, 0, none⟩)) (fa43_0_0 gb902) _ rfl rfl) rfl ?_)
                  | ((with_reducible refine gate_d (N := 8) rfl ?_); refine ag_fix (.int .i64 a0_0) (ex_get sT3 gb902 (0) (.int .i64 a0_0) (#[.int .i64 a0_0, .int .i64 a0_1, .int .i64 a0_2, .bool true]) BKb902.out rfl _ rfl rfl) rfl ?_)
                  | ((with_reducible refine gate_d (N := 12) rfl ?_); refine ag_fix (.pointer (some ⟨gb902, 2, none⟩)) (ex_field 43 2 (.pointer (some ⟨gb902, 0, none⟩)) (.pointer (some ⟨gb902, 2, none⟩)) (fa43_2_0 gb902) _ rfl rfl) rfl ?_)
                  | ((with_reducible refine gate_d (N := 13) rfl ?_); refine ag_fix (.int .i64 a0_2) (ex_get sT3 gb902 (2) (.int .i64 a0_2) (#[.int .i64 a0_0, .int .i64 a0_1, .int .i64 a0_2, .bool true]) BKb902.out rfl _ rfl rfl) rfl ?_)
                  | ((with_reducible refine gate_d (N := 17) rfl ?_); refine ag_fix (.pointer (some ⟨gb902, 2, none⟩)) (ex_field 43 2 (.pointer (some ⟨gb902, 0, none⟩)) (.pointer (some ⟨gb902, 2, none⟩)) (fa43_2_0 gb902) _ rfl rfl) rfl ?_)
                  | ((with_reducible refine gate_d (N := 18) rfl ?_); refine ag_fix (.int .i64 a0_2) (ex_get sT3 gb902 (2) (.int .i64 a0_2) (#[.int .i64 a0_0, .int .i64 a0_1, .int .i64 a0_2, .bool true]) BKb902.out rfl _ rfl rfl) rfl ?_)
                  | ((with_reducible refine gate_d (N := 21) rfl ?_); refine ag_fix (.pointer (some ⟨gb902, 0, none⟩)) (ex_field 43 0 (.pointer (some ⟨gb902, 0, none⟩)) (.pointer (some ⟨gb902, 0, none⟩)) (fa43_0_0 gb902) _ rfl rfl) rfl ?_)
                  | ((with_reducible refine gate_d (N := 22) rfl ?_); refine ag_fix (.int .i64 a0_0) (ex_get sT3 gb902 (0) (.int .i64 a0_0) (#[.int .i64 a0_0, .int .i64 a0_1, .int .i64 a0_2, .bool true]) BKb902.out rfl _ rfl rfl) rfl ?_)
                  | ((with_reducible refine gate_d (N := 37) rfl ?_); refine ag_fix (.pointer (some ⟨gb902, 1, none⟩)) (ex_field 43 1 (.pointer (some ⟨gb902, 0, none⟩)) (.pointer (some ⟨gb902, 1, none⟩)) (fa43_1_0 gb902) _ rfl rfl) rfl ?_)
                  | ((with_reducible refine gate_d (N := 38) rfl ?_); refine ag_fix (.int .i64 a0_1) (ex_get sT3 gb902 (1) (.int .i64 a0_1) (#[.int .i64 a0_0, .int .i64 a0_1, .int .i64 a0_2, .bool true]) BKb902.out rfl _ rfl rfl) rfl ?_)
                  | ((with_reducible refine gate_d (N := 45) rfl ?_); refine ag_fix (.pointer (some ⟨gb902, 3, none⟩)) (ex_field 43 3 (.pointer (some ⟨gb902, 0, none⟩)) (.pointer (some ⟨gb902, 3, none⟩)) (fa43_3_0 gb902) _ rfl rfl) rfl ?_)
                  | ((with_reducible refine gate_d (N := 46) rfl ?_); refine ag_fix (.bool true) (ex_get sT4 gb902 (3) (.bool true) (#[.int .i64 a0_0, .int .i64 a0_1, .int .i64 a0_2, .bool true]) BKb902.out rfl _ rfl rfl) rfl ?_)
                  | ((with_reducible refine gate_d (N := 47) rfl ?_); refine ag_fix (.pointer (some ⟨gb902, 0, none⟩)) (ex_field 43 0 (.pointer (some ⟨gb902, 0, none⟩)) (.pointer (some ⟨gb902, 0, none⟩)) (fa43_0_0 gb902) _ rfl rfl) rfl ?_)
                  | ((with_reducible refine gate_d (N := 48) rfl ?_); refine ag_fix (.int .i64 a0_0) (ex_get sT3 gb902 (0) (.int .i64 a0_0) (#[.int .i64 a0_0, .int .i64 a0_1, .int .i64 a0_2, .bool true]) BKb902.out rfl _ rfl rfl) rfl ?_))
                (try simp only [Act.put, List.setIfInBounds_toArray, List.set_cons_zero, List.set_cons_succ])
                go_ret
                exact ⟨by first | rfl | (simp; done) | (simp [*]; done), HL.out⟩
              | false =>
                rw [if_neg (show ¬ (false = true) by decide)] at H
                obtain rfl := Option.some.inj H
                clear H
                go_enter Try.func23, Try.ntmps23
                go_wp2_with (first
                  | ((with_reducible refine gate_d (N := 1) rfl ?_); obtain ⟨gb902, hgb902⟩ : ∃ g_, w.heap.size = g_ := ⟨_, rfl⟩; refine ag_box #[.int .i64 a0_0, .int .i64 a0_1, .int .i64 a0_2, .bool false] gb902 hgb902 rfl _ rfl rfl ?_; intro w920 hb_ hB_ hs_; have GEb902 : Hid (w.heap.size ≤ gb902) := hid (by have := HL.out.size; omega); replace HL := hid (HL.out.trans (hb_.mono GEb902.out)); have BKb902 := hid hB_; clear hb_ hB_ hs_ hgb902)
                  | ((with_reducible refine gate_d (N := 3) rfl ?_); refine ag_fix (.pointer (some ⟨gb902, 0, none⟩)) (ex_field 43 0 (.pointer (some ⟨gb902, 0, none⟩)) (.pointer (some ⟨gb902, 0, none⟩)) (fa43_0_0 gb902) _ rfl rfl) rfl ?_)
                  | ((with_reducible refine gate_d (N := 4) rfl ?_); refine ag_fix (.int .i64 a0_0) (ex_get sT3 gb902 (0) (.int .i64 a0_0) (#[.int .i64 a0_0, .int .i64 a0_1, .int .i64 a0_2, .bool false]) BKb902.out rfl _ rfl rfl) rfl ?_)
                  | ((with_reducible refine gate_d (N := 7) rfl ?_); refine ag_fix (.pointer (some ⟨gb902, 0, none⟩)) (ex_field 43 0 (.pointer (some ⟨gb902, 0, none⟩)) (.pointer (some ⟨gb902, 0, none⟩)) (fa43_0_0 gb902) _ rfl rfl) rfl ?_)
                  | ((with_reducible refine gate_d (N := 8) rfl ?_); refine ag_fix (.int .i64 a0_0) (ex_get sT3 gb902 (0) (.int .i64 a0_0) (#[.int .i64 a0_0, .int .i64 a0_1, .int .i64 a0_2, .bool false]) BKb902.out rfl _ rfl rfl) rfl ?_)
                  | ((with_reducible refine gate_d (N := 12) rfl ?_); refine ag_fix (.pointer (some ⟨gb902, 2, none⟩)) (ex_field 43 2 (.pointer (some ⟨gb902, 0, none⟩)) (.pointer (some ⟨gb902, 2, none⟩)) (fa43_2_0 gb902) _ rfl rfl) rfl ?_)
                  | ((with_reducible refine gate_d (N := 13) rfl ?_); refine ag_fix (.int .i64 a0_2) (ex_get sT3 gb902 (2) (.int .i64 a0_2) (#[.int .i64 a0_0, .int .i64 a0_1, .int .i64 a0_2, .bool false]) BKb902.out rfl _ rfl rfl) rfl ?_)
                  | ((with_reducible refine gate_d (N := 17) rfl ?_); refine ag_fix (.pointer (some ⟨gb902, 2, none⟩)) (ex_field 43 2 (.pointer (some ⟨gb902, 0, none⟩)) (.pointer (some ⟨gb902, 2, none⟩)) (fa43_2_0 gb902) _ rfl rfl) rfl ?_)
                  | ((with_reducible refine gate_d (N := 18) rfl ?_); refine ag_fix (.int .i64 a0_2) (ex_get sT3 gb902 (2) (.int .i64 a0_2) (#[.int .i64 a0_0, .int .i64 a0_1, .int .i64 a0_2, .bool false]) BKb902.out rfl _ rfl rfl) rfl ?_)
                  | ((with_reducible refine gate_d (N := 21) rfl ?_); refine ag_fix (.pointer (some ⟨gb902, 0, none⟩)) (ex_field 43 0 (.pointer (some ⟨gb902, 0, none⟩)) (.pointer (some ⟨gb902, 0, none⟩)) (fa43_0_0 gb902) _ rfl rfl) rfl ?_)
                  | ((with_reducible refine gate_d (N := 22) rfl ?_); refine ag_fix (.int .i64 a0_0) (ex_get sT3 gb902 (0) (.int .i64 a0_0) (#[.int .i64 a0_0, .int .i64 a0_1, .int .i64 a0_2, .bool false]) BKb902.out rfl _ rfl rfl) rfl ?_)
                  | ((with_reducible refine gate_d (N := 37) rfl ?_); refine ag_fix (.pointer (some ⟨gb902, 1, none⟩)) (ex_field 43 1 (.pointer (some ⟨gb902, 0, none⟩)) (.pointer (some ⟨gb902, 1, none⟩)) (fa43_1_0 gb902) _ rfl rfl) rfl ?_)
                  | ((with_reducible refine gate_d (N := 38) rfl ?_); refine ag_fix (.int .i64 a0_1) (ex_get sT3 gb902 (1) (.int .i64 a0_1) (#[.int .i64 a0_0, .int .i64 a0_1, .int .i64 a0_2, .bool false]) BKb902.out rfl _ rfl rfl) rfl ?_)
                  | ((with_reducible refine gate_d (N := 45) rfl ?_); refine ag_fix (.pointer (some ⟨gb902, 3, none⟩)) (ex_field 43 3 (.pointer (some ⟨gb902, 0, none⟩)) (.pointer (some ⟨gb902, 3, none⟩)) (fa43_3_0 gb902) _ rfl rfl) rfl ?_)
                  | ((with_reducible refine gate_d (N := 46) rfl ?_); refine ag_fix (.bool false) (ex_get sT4 gb902 (3) (.bool false) (#[.int .i64 a0_0, .int .i64 a0_1, .int .i64 a0_2, .bool false]) BKb902.out rfl _ rfl rfl) rfl ?_)
                  | ((with_reducible refine gate_d (N := 50) rfl ?_); refine ag_fix (.pointer (some ⟨gb902, 2, none⟩)) (ex_field 43 2 (.pointer (some ⟨gb902, 0, none⟩)) (.pointer (some ⟨gb902, 2, none⟩)) (fa43_2_0 gb902) _ rfl rfl) rfl ?_)
                  | ((with_reducible refine gate_d (N := 51) rfl ?_); refine ag_fix (.int .i64 a0_2) (ex_get sT3 gb902 (2) (.int .i64 a0_2) (#[.int .i64 a0_0, .int .i64 a0_1, .int .i64 a0_2, .bool false]) BKb902.out rfl _ rfl rfl) rfl ?_))
                (try simp only [Act.put, List.setIfInBounds_toArray, List.set_cons_zero, List.set_cons_succ])
                go_ret
                exact ⟨by first | rfl | (simp; done) | (simp [*]; done), HL.out⟩
            · rw [if_neg c917] at H
              have c917b0 : (a0_1 == 1) = false := beq_eq_false_iff_ne.mpr c917
              have c917b1 : (a0_1 != 1) = true := bne_iff_ne.mpr c917
              have hc917 := hid c917
              clear c917
              by_cases c921 : a0_1 = 2
              · rw [if_pos c921] at H
                have c921b0 : (a0_1 == 2) = true := beq_iff_eq.mpr c921
                have c921b1 : (a0_1 != 2) = false := bne_eq_false_iff_eq.mpr c921
                have hc921 := hid c921
                clear c921
                cases a0_3 with
                | true =>
                  rw [if_pos rfl] at H
                  obtain rfl := Option.some.inj H
                  clear H
                  go_enter Try.func23, Try.ntmps23
                  go_wp2_with (first
                    | ((with_reducible refine gate_d (N := 1) rfl ?_); obtain ⟨gb902, hgb902⟩ : ∃ g_, w.heap.size = g_ := ⟨_, rfl⟩; refine ag_box #[.int .i64 a0_0, .int .i64 a0_1, .int .i64 a0_2, .bool true] gb902 hgb902 rfl _ rfl rfl ?_; intro w923 hb_ hB_ hs_; have GEb902 : Hid (w.heap.size ≤ gb902) := hid (by have := HL.out.size; omega); replace HL := hid (HL.out.trans (hb_.mono GEb902.out)); have BKb902 := hid hB_; clear hb_ hB_ hs_ hgb902)
                    | ((with_reducible refine gate_d (N := 3) rfl ?_); refine ag_fix (.pointer (some ⟨gb902, 0, none⟩)) (ex_field 43 0 (.pointer (some ⟨gb902, 0, none⟩)) (.pointer (some ⟨gb902, 0, none⟩)) (fa43_0_0 gb902) _ rfl rfl) rfl ?_)
                    | ((with_reducible refine gate_d (N := 4) rfl ?_); refine ag_fix (.int .i64 a0_0) (ex_get sT3 gb902 (0) (.int .i64 a0_0) (#[.int .i64 a0_0, .int .i64 a0_1, .int .i64 a0_2, .bool true]) BKb902.out rfl _ rfl rfl) rfl ?_)
                    | ((with_reducible refine gate_d (N := 7) rfl ?_); refine ag_fix (.pointer (some ⟨gb902, 0, none⟩)) (ex_field 43 0 (.pointer (some ⟨gb902, 0, none⟩)) (.pointer (some ⟨gb902, 0, none⟩)) (fa43_0_0 gb902) _ rfl rfl) rfl ?_)
                    | ((with_reducible refine gate_d (N := 8) rfl ?_); refine ag_fix (.int .i64 a0_0) (ex_get sT3 gb902 (0) (.int .i64 a0_0) (#[.int .i64 a0_0, .int .i64 a0_1, .int .i64 a0_2, .bool true]) BKb902.out rfl _ rfl rfl) rfl ?_)
                    | ((with_reducible refine gate_d (N := 12) rfl ?_); refine ag_fix (.pointer (some ⟨gb902, 2, none⟩)) (ex_field 43 2 (.pointer (some ⟨gb902, 0, none⟩)) (.pointer (some ⟨gb902, 2, none⟩)) (fa43_2_0 gb902) _ rfl rfl) rfl ?_)
                    | ((with_reducible refine gate_d (N := 13) rfl ?_); refine ag_fix (.int .i64 a0_2) (ex_get sT3 gb902 (2) (.int .i64 a0_2) (#[.int .i64 a0_0, .int .i64 a0_1, .int .i64 a0_2, .bool true]) BKb902.out rfl _ rfl rfl) rfl ?_)
                    | ((with_reducible refine gate_d (N := 17) rfl ?_); refine ag_fix (.pointer (some ⟨gb902, 2, none⟩)) (ex_field 43 2 (.pointer (some ⟨gb902, 0, none⟩)) (.pointer (some ⟨gb902, 2, none⟩)) (fa43_2_0 gb902) _ rfl rfl) rfl ?_)
                    | ((with_reducible refine gate_d (N := 18) rfl ?_); refine ag_fix (.int .i64 a0_2) (ex_get sT3 gb902 (2) (.int .i64 a0_2) (#[.int .i64 a0_0, .int .i64 a0_1, .int .i64 a0_2, .bool true]) BKb902.out rfl _ rfl rfl) rfl ?_)
                    | ((with_reducible refine gate_d (N := 21) rfl ?_); refine ag_fix (.pointer (some ⟨gb902, 0, none⟩)) (ex_field 43 0 (.pointer (some ⟨gb902, 0, none⟩)) (.pointer (some ⟨gb902, 0, none⟩)) (fa43_0_0 gb902) _ rfl rfl) rfl ?_)
                    | ((with_reducible refine gate_d (N := 22) rfl ?_); refine ag_fix (.int .i64 a0_0) (ex_get sT3 gb902 (0) (.int .i64 a0_0) (#[.int .i64 a0_0, .int .i64 a0_1, .int .i64 a0_2, .bool true]) BKb902.out rfl _ rfl rfl) rfl ?_)
                    | ((with_reducible refine gate_d (N := 37) rfl ?_); refine ag_fix (.pointer (some ⟨gb902, 1, none⟩)) (ex_field 43 1 (.pointer (some ⟨gb902, 0, none⟩)) (.pointer (some ⟨gb902, 1, none⟩)) (fa43_1_0 gb902) _ rfl rfl) rfl ?_)
                    | ((with_reducible refine gate_d (N := 38) rfl ?_); refine ag_fix (.int .i64 a0_1) (ex_get sT3 gb902 (1) (.int .i64 a0_1) (#[.int .i64 a0_0, .int .i64 a0_1, .int .i64 a0_2, .bool true]) BKb902.out rfl _ rfl rfl) rfl ?_)
                    | ((with_reducible refine gate_d (N := 41) rfl ?_); refine ag_fix (.pointer (some ⟨gb902, 1, none⟩)) (ex_field 43 1 (.pointer (some ⟨gb902, 0, none⟩)) (.pointer (some ⟨gb902, 1, none⟩)) (fa43_1_0 gb902) _ rfl rfl) rfl ?_)
                    | ((with_reducible refine gate_d (N := 42) rfl ?_); refine ag_fix (.int .i64 a0_1) (ex_get sT3 gb902 (1) (.int .i64 a0_1) (#[.int .i64 a0_0, .int .i64 a0_1, .int .i64 a0_2, .bool true]) BKb902.out rfl _ rfl rfl) rfl ?_)
                    | ((with_reducible refine gate_d (N := 45) rfl ?_); refine ag_fix (.pointer (some ⟨gb902, 3, none⟩)) (ex_field 43 3 (.pointer (some ⟨gb902, 0, none⟩)) (.pointer (some ⟨gb902, 3, none⟩)) (fa43_3_0 gb902) _ rfl rfl) rfl ?_)
                    | ((with_reducible refine gate_d (N := 46) rfl ?_); refine ag_fix (.bool true) (ex_get sT4 gb902 (3) (.bool true) (#[.int .i64 a0_0, .int .i64 a0_1, .int .i64 a0_2, .bool true]) BKb902.out rfl _ rfl rfl) rfl ?_)
                    | ((with_reducible refine gate_d (N := 47) rfl ?_); refine ag_fix (.pointer (some ⟨gb902, 0, none⟩)) (ex_field 43 0 (.pointer (some ⟨gb902, 0, none⟩)) (.pointer (some ⟨gb902, 0, none⟩)) (fa43_0_0 gb902) _ rfl rfl) rfl ?_)
                    | ((with_reducible refine gate_d (N := 48) rfl ?_); refine ag_fix (.int .i64 a0_0) (ex_get sT3 gb902 (0) (.int .i64 a0_0) (#[.int .i64 a0_0, .int .i64 a0_1, .int .i64 a0_2, .bool true]) BKb902.out rfl _ rfl rfl) rfl ?_))
                  (try simp only [Act.put, List.setIfInBounds_toArray, List.set_cons_zero, List.set_cons_succ])
                  go_ret
                  exact ⟨by first | rfl | (simp; done) | (simp [*]; done), HL.out⟩
                | false =>
                  rw [if_neg (show ¬ (false = true) by decide)] at H
                  obtain rfl := Option.some.inj H
                  clear H
                  go_enter Try.func23, Try.ntmps23
                  go_wp2_with (first
                    | ((with_reducible refine gate_d (N := 1) rfl ?_); obtain ⟨gb902, hgb902⟩ : ∃ g_, w.heap.size = g_ := ⟨_, rfl⟩; refine ag_box #[.int .i64 a0_0, .int .i64 a0_1, .int .i64 a0_2, .bool false] gb902 hgb902 rfl _ rfl rfl ?_; intro w924 hb_ hB_ hs_; have GEb902 : Hid (w.heap.size ≤ gb902) := hid (by have := HL.out.size; omega); replace HL := hid (HL.out.trans (hb_.mono GEb902.out)); have BKb902 := hid hB_; clear hb_ hB_ hs_ hgb902)
                    | ((with_reducible refine gate_d (N := 3) rfl ?_); refine ag_fix (.pointer (some ⟨gb902, 0, none⟩)) (ex_field 43 0 (.pointer (some ⟨gb902, 0, none⟩)) (.pointer (some ⟨gb902, 0, none⟩)) (fa43_0_0 gb902) _ rfl rfl) rfl ?_)
                    | ((with_reducible refine gate_d (N := 4) rfl ?_); refine ag_fix (.int .i64 a0_0) (ex_get sT3 gb902 (0) (.int .i64 a0_0) (#[.int .i64 a0_0, .int .i64 a0_1, .int .i64 a0_2, .bool false]) BKb902.out rfl _ rfl rfl) rfl ?_)
                    | ((with_reducible refine gate_d (N := 7) rfl ?_); refine ag_fix (.pointer (some ⟨gb902, 0, none⟩)) (ex_field 43 0 (.pointer (some ⟨gb902, 0, none⟩)) (.pointer (some ⟨gb902, 0, none⟩)) (fa43_0_0 gb902) _ rfl rfl) rfl ?_)
                    | ((with_reducible refine gate_d (N := 8) rfl ?_); refine ag_fix (.int .i64 a0_0) (ex_get sT3 gb902 (0) (.int .i64 a0_0) (#[.int .i64 a0_0, .int .i64 a0_1, .int .i64 a0_2, .bool false]) BKb902.out rfl _ rfl rfl) rfl ?_)
                    | ((with_reducible refine gate_d (N := 12) rfl ?_); refine ag_fix (.pointer (some ⟨gb902, 2, none⟩)) (ex_field 43 2 (.pointer (some ⟨gb902, 0, none⟩)) (.pointer (some ⟨gb902, 2, none⟩)) (fa43_2_0 gb902) _ rfl rfl) rfl ?_)
                    | ((with_reducible refine gate_d (N := 13) rfl ?_); refine ag_fix (.int .i64 a0_2) (ex_get sT3 gb902 (2) (.int .i64 a0_2) (#[.int .i64 a0_0, .int .i64 a0_1, .int .i64 a0_2, .bool false]) BKb902.out rfl _ rfl rfl) rfl ?_)
                    | ((with_reducible refine gate_d (N := 17) rfl ?_); refine ag_fix (.pointer (some ⟨gb902, 2, none⟩)) (ex_field 43 2 (.pointer (some ⟨gb902, 0, none⟩)) (.pointer (some ⟨gb902, 2, none⟩)) (fa43_2_0 gb902) _ rfl rfl) rfl ?_)
                    | ((with_reducible refine gate_d (N := 18) rfl ?_); refine ag_fix (.int .i64 a0_2) (ex_get sT3 gb902 (2) (.int .i64 a0_2) (#[.int .i64 a0_0, .int .i64 a0_1, .int .i64 a0_2, .bool false]) BKb902.out rfl _ rfl rfl) rfl ?_)
                    | ((with_reducible refine gate_d (N := 21) rfl ?_); refine ag_fix (.pointer (some ⟨gb902, 0, none⟩)) (ex_field 43 0 (.pointer (some ⟨gb902, 0, none⟩)) (.pointer (some ⟨gb902, 0, none⟩)) (fa43_0_0 gb902) _ rfl rfl) rfl ?_)
                    | ((with_reducible refine gate_d (N := 22) rfl ?_); refine ag_fix (.int .i64 a0_0) (ex_get sT3 gb902 (0) (.int .i64 a0_0) (#[.int .i64 a0_0, .int .i64 a0_1, .int .i64 a0_2, .bool false]) BKb902.out rfl _ rfl rfl) rfl ?_)
                    | ((with_reducible refine gate_d (N := 37) rfl ?_); refine ag_fix (.pointer (some ⟨gb902, 1, none⟩)) (ex_field 43 1 (.pointer (some ⟨gb902, 0, none⟩)) (.pointer (some ⟨gb902, 1, none⟩)) (fa43_1_0 gb902) _ rfl rfl) rfl ?_)
                    | ((with_reducible refine gate_d (N := 38) rfl ?_); refine ag_fix (.int .i64 a0_1) (ex_get sT3 gb902 (1) (.int .i64 a0_1) (#[.int .i64 a0_0, .int .i64 a0_1, .int .i64 a0_2, .bool false]) BKb902.out rfl _ rfl rfl) rfl ?_)
                    | ((with_reducible refine gate_d (N := 41) rfl ?_); refine ag_fix (.pointer (some ⟨gb902, 1, none⟩)) (ex_field 43 1 (.pointer (some ⟨gb902, 0, none⟩)) (.pointer (some ⟨gb902, 1, none⟩)) (fa43_1_0 gb902) _ rfl rfl) rfl ?_)
                    | ((with_reducible refine gate_d (N := 42) rfl ?_); refine ag_fix (.int .i64 a0_1) (ex_get sT3 gb902 (1) (.int .i64 a0_1) (#[.int .i64 a0_0, .int .i64 a0_1, .int .i64 a0_2, .bool false]) BKb902.out rfl _ rfl rfl) rfl ?_)
                    | ((with_reducible refine gate_d (N := 45) rfl ?_); refine ag_fix (.pointer (some ⟨gb902, 3, none⟩)) (ex_field 43 3 (.pointer (some ⟨gb902, 0, none⟩)) (.pointer (some ⟨gb902, 3, none⟩)) (fa43_3_0 gb902) _ rfl rfl) rfl ?_)
                    | ((with_reducible refine gate_d (N := 46) rfl ?_); refine ag_fix (.bool false) (ex_get sT4 gb902 (3) (.bool false) (#[.int .i64 a0_0, .int .i64 a0_1, .int .i64 a0_2, .bool false]) BKb902.out rfl _ rfl rfl) rfl ?_)
                    | ((with_reducible refine gate_d (N := 50) rfl ?_); refine ag_fix (.pointer (some ⟨gb902, 2, none⟩)) (ex_field 43 2 (.pointer (some ⟨gb902, 0, none⟩)) (.pointer (some ⟨gb902, 2, none⟩)) (fa43_2_0 gb902) _ rfl rfl) rfl ?_)
                    | ((with_reducible refine gate_d (N := 51) rfl ?_); refine ag_fix (.int .i64 a0_2) (ex_get sT3 gb902 (2) (.int .i64 a0_2) (#[.int .i64 a0_0, .int .i64 a0_1, .int .i64 a0_2, .bool false]) BKb902.out rfl _ rfl rfl) rfl ?_))
                  (try simp only [Act.put, List.setIfInBounds_toArray, List.set_cons_zero, List.set_cons_succ])
                  go_ret
                  exact ⟨by first | rfl | (simp; done) | (simp [*]; done), HL.out⟩
              · rw [if_neg c921] at H
                have c921b0 : (a0_1 == 2) = false := beq_eq_false_iff_ne.mpr c921
                have c921b1 : (a0_1 != 2) = true := bne_iff_ne.mpr c921
                have hc921 := hid c921
                clear c921
                obtain rfl := Option.some.inj H
                clear H
                go_enter Try.func23, Try.ntmps23
                go_wp2_with (first
                  | ((with_reducible refine gate_d (N := 1) rfl ?_); obtain ⟨gb902, hgb902⟩ : ∃ g_, w.heap.size = g_ := ⟨_, rfl⟩; refine ag_box #[.int .i64 a0_0, .int .i64 a0_1, .int .i64 a0_2, .bool a0_3] gb902 hgb902 rfl _ rfl rfl ?_; intro w925 hb_ hB_ hs_; have GEb902 : Hid (w.heap.size ≤ gb902) := hid (by have := HL.out.size; omega); replace HL := hid (HL.out.trans (hb_.mono GEb902.out)); have BKb902 := hid hB_; clear hb_ hB_ hs_ hgb902)
                  | ((with_reducible refine gate_d (N := 3) rfl ?_); refine ag_fix (.pointer (some ⟨gb902, 0, none⟩)) (ex_field 43 0 (.pointer (some ⟨gb902, 0, none⟩)) (.pointer (some ⟨gb902, 0, none⟩)) (fa43_0_0 gb902) _ rfl rfl) rfl ?_)
                  | ((with_reducible refine gate_d (N := 4) rfl ?_); refine ag_fix (.int .i64 a0_0) (ex_get sT3 gb902 (0) (.int .i64 a0_0) (#[.int .i64 a0_0, .int .i64 a0_1, .int .i64 a0_2, .bool a0_3]) BKb902.out rfl _ rfl rfl) rfl ?_)
                  | ((with_reducible refine gate_d (N := 7) rfl ?_); refine ag_fix (.pointer (some ⟨gb902, 0, none⟩)) (ex_field 43 0 (.pointer (some ⟨gb902, 0, none⟩)) (.pointer (some ⟨gb902, 0, none⟩)) (fa43_0_0 gb902) _ rfl rfl) rfl ?_)
                  | ((with_reducible refine gate_d (N := 8) rfl ?_); refine ag_fix (.int .i64 a0_0) (ex_get sT3 gb902 (0) (.int .i64 a0_0) (#[.int .i64 a0_0, .int .i64 a0_1, .int .i64 a0_2, .bool a0_3]) BKb902.out rfl _ rfl rfl) rfl ?_)
                  | ((with_reducible refine gate_d (N := 12) rfl ?_); refine ag_fix (.pointer (some ⟨gb902, 2, none⟩)) (ex_field 43 2 (.pointer (some ⟨gb902, 0, none⟩)) (.pointer (some ⟨gb902, 2, none⟩)) (fa43_2_0 gb902) _ rfl rfl) rfl ?_)
                  | ((with_reducible refine gate_d (N := 13) rfl ?_); refine ag_fix (.int .i64 a0_2) (ex_get sT3 gb902 (2) (.int .i64 a0_2) (#[.int .i64 a0_0, .int .i64 a0_1, .int .i64 a0_2, .bool a0_3]) BKb902.out rfl _ rfl rfl) rfl ?_)
                  | ((with_reducible refine gate_d (N := 17) rfl ?_); refine ag_fix (.pointer (some ⟨gb902, 2, none⟩)) (ex_field 43 2 (.pointer (some ⟨gb902, 0, none⟩)) (.pointer (some ⟨gb902, 2, none⟩)) (fa43_2_0 gb902) _ rfl rfl) rfl ?_)
                  | ((with_reducible refine gate_d (N := 18) rfl ?_); refine ag_fix (.int .i64 a0_2) (ex_get sT3 gb902 (2) (.int .i64 a0_2) (#[.int .i64 a0_0, .int .i64 a0_1, .int .i64 a0_2, .bool a0_3]) BKb902.out rfl _ rfl rfl) rfl ?_)
                  | ((with_reducible refine gate_d (N := 21) rfl ?_); refine ag_fix (.pointer (some ⟨gb902, 0, none⟩)) (ex_field 43 0 (.pointer (some ⟨gb902, 0, none⟩)) (.pointer (some ⟨gb902, 0, none⟩)) (fa43_0_0 gb902) _ rfl rfl) rfl ?_)
                  | ((with_reducible refine gate_d (N := 22) rfl ?_); refine ag_fix (.int .i64 a0_0) (ex_get sT3 gb902 (0) (.int .i64 a0_0) (#[.int .i64 a0_0, .int .i64 a0_1, .int .i64 a0_2, .bool a0_3]) BKb902.out rfl _ rfl rfl) rfl ?_)
                  | ((with_reducible refine gate_d (N := 37) rfl ?_); refine ag_fix (.pointer (some ⟨gb902, 1, none⟩)) (ex_field 43 1 (.pointer (some ⟨gb902, 0, none⟩)) (.pointer (some ⟨gb902, 1, none⟩)) (fa43_1_0 gb902) _ rfl rfl) rfl ?_)
                  | ((with_reducible refine gate_d (N := 38) rfl ?_); refine ag_fix (.int .i64 a0_1) (ex_get sT3 gb902 (1) (.int .i64 a0_1) (#[.int .i64 a0_0, .int .i64 a0_1, .int .i64 a0_2, .bool a0_3]) BKb902.out rfl _ rfl rfl) rfl ?_)
                  | ((with_reducible refine gate_d (N := 41) rfl ?_); refine ag_fix (.pointer (some ⟨gb902, 1, none⟩)) (ex_field 43 1 (.pointer (some ⟨gb902, 0, none⟩)) (.pointer (some ⟨gb902, 1, none⟩)) (fa43_1_0 gb902) _ rfl rfl) rfl ?_)
                  | ((with_reducible refine gate_d (N := 42) rfl ?_); refine ag_fix (.int .i64 a0_1) (ex_get sT3 gb902 (1) (.int .i64 a0_1) (#[.int .i64 a0_0, .int .i64 a0_1, .int .i64 a0_2, .bool a0_3]) BKb902.out rfl _ rfl rfl) rfl ?_))
                (try simp only [Act.put, List.setIfInBounds_toArray, List.set_cons_zero, List.set_cons_succ])
                go_ret
                exact ⟨by first | rfl | (simp; done) | (simp [*]; done), HL.out⟩
/-! i_alfilref15_Plies: function 24 -/
def i_alfilref15_Plies.f (a0_0 : Int) (a0_1 : Int) (a0_2 : Int) (a0_3 : Bool) : Option (Int) := if a0_0 = 5 then (if a0_0 = 6 then (some (wrap64 ((wrap64 ((wrap64 (a0_2 + a0_2)) + 1)) + a0_2))) else (if a0_3 = true then (if a0_0 = 7 then (some (wrap64 ((wrap64 ((wrap64 (a0_2 + a0_2)) + 1)) + a0_2))) else (some (wrap64 ((wrap64 (a0_2 + a0_2)) + 1)))) else (if a0_0 = 7 then (some (wrap64 ((wrap64 (a0_2 + a0_2)) + a0_2))) else (some (wrap64 (a0_2 + a0_2)))))) else (if a0_0 = 6 then (some (wrap64 ((0 + 1) + a0_2))) else (if a0_3 = true then (if a0_0 = 7 then (some (wrap64 ((0 + 1) + a0_2))) else (some (0 + 1))) else (if a0_0 = 7 then (some (wrap64 (0 + a0_2))) else (some 0))))
set_option maxHeartbeats 40000000 in
set_option maxRecDepth 100000 in
theorem i_alfilref15_Plies.calls (a0_0 : Int) (a0_1 : Int) (a0_2 : Int) (a0_3 : Bool) (r1 : Int) (w : World) (h : i_alfilref15_Plies.f a0_0 a0_1 a0_2 a0_3 = some r1) :
    Calls Try.prog 24 #[.agg #[.int .i64 a0_0, .int .i64 a0_1, .int .i64 a0_2, .bool a0_3]] w fun e w' => e = .returned (.int .i64 r1) ∧ Below w.heap.size w w' := by
  have HL := hid (Below.refl w.heap.size w)
  have H : (if a0_0 = 5 then (if a0_0 = 6 then (some (wrap64 ((wrap64 ((wrap64 (a0_2 + a0_2)) + 1)) + a0_2))) else (if a0_3 = true then (if a0_0 = 7 then (some (wrap64 ((wrap64 ((wrap64 (a0_2 + a0_2)) + 1)) + a0_2))) else (some (wrap64 ((wrap64 (a0_2 + a0_2)) + 1)))) else (if a0_0 = 7 then (some (wrap64 ((wrap64 (a0_2 + a0_2)) + a0_2))) else (some (wrap64 (a0_2 + a0_2)))))) else (if a0_0 = 6 then (some (wrap64 ((0 + 1) + a0_2))) else (if a0_3 = true then (if a0_0 = 7 then (some (wrap64 ((0 + 1) + a0_2))) else (some (0 + 1))) else (if a0_0 = 7 then (some (wrap64 (0 + a0_2))) else (some 0))))) = some r1 := h
  clear h
  by_cases c927 : a0_0 = 5
  · rw [if_pos c927] at H
    have c927b0 : (a0_0 == 5) = true := beq_iff_eq.mpr c927
    have c927b1 : (a0_0 != 5) = false := bne_eq_false_iff_eq.mpr c927
    have hc927 := hid c927
    clear c927
    by_cases c928 : a0_0 = 6
    · rw [if_pos c928] at H
      exfalso
      clear H
      have := hc927.out; omega
    · rw [if_neg c928] at H
      have c928b0 : (a0_0 == 6) = false := beq_eq_false_iff_ne.mpr c928
      have c928b1 : (a0_0 != 6) = true := bne_iff_ne.mpr c928
      have hc928 := hid c928
      clear c928
      cases a0_3 with
      | true =>
        rw [if_pos rfl] at H
        by_cases c930 : a0_0 = 7
        · rw [if_pos c930] at H
          exfalso
          clear H
          have := hc927.out; have := hc928.out; omega
        · rw [if_neg c930] at H
          have c930b0 : (a0_0 == 7) = false := beq_eq_false_iff_ne.mpr c930
          have c930b1 : (a0_0 != 7) = true := bne_iff_ne.mpr c930
          have hc930 := hid c930
          clear c930
          obtain rfl := Option.some.inj H
          clear H
          go_enter Try.func24, Try.ntmps24
          go_wp2_with (first
            | ((with_reducible refine gate_d (N := 1) rfl ?_); obtain ⟨gb926, hgb926⟩ : ∃ g_, w.heap.size = g_ := ⟨_, rfl⟩; refine ag_box #[.int .i64 a0_0, .int .i64 a0_1, .int .i64 a0_2, .bool true] gb926 hgb926 rfl _ rfl rfl ?_; intro w931 hb_ hB_ hs_; have GEb926 : Hid (w.heap.size ≤ gb926) := hid (by have := HL.out.size; omega); replace HL := hid (HL.out.trans (hb_.mono GEb926.out)); have BKb926 := hid hB_; clear hb_ hB_ hs_ hgb926)
            | ((with_reducible refine gate_d (N := 4) rfl ?_); refine ag_fix (.pointer (some ⟨gb926, 0, none⟩)) (ex_field 43 0 (.pointer (some ⟨gb926, 0, none⟩)) (.pointer (some ⟨gb926, 0, none⟩)) (fa43_0_0 gb926) _ rfl rfl) rfl ?_)
            | ((with_reducible refine gate_d (N := 5) rfl ?_); refine ag_fix (.int .i64 a0_0) (ex_get sT3 gb926 (0) (.int .i64 a0_0) (#[.int .i64 a0_0, .int .i64 a0_1, .int .i64 a0_2, .bool true]) BKb926.out rfl _ rfl rfl) rfl ?_)
            | ((with_reducible refine gate_d (N := 7) rfl ?_); refine ag_fix (.pointer (some ⟨gb926, 2, none⟩)) (ex_field 43 2 (.pointer (some ⟨gb926, 0, none⟩)) (.pointer (some ⟨gb926, 2, none⟩)) (fa43_2_0 gb926) _ rfl rfl) rfl ?_)
            | ((with_reducible refine gate_d (N := 8) rfl ?_); refine ag_fix (.int .i64 a0_2) (ex_get sT3 gb926 (2) (.int .i64 a0_2) (#[.int .i64 a0_0, .int .i64 a0_1, .int .i64 a0_2, .bool true]) BKb926.out rfl _ rfl rfl) rfl ?_)
            | ((with_reducible refine gate_d (N := 9) rfl ?_); refine ag_fix (.pointer (some ⟨gb926, 2, none⟩)) (ex_field 43 2 (.pointer (some ⟨gb926, 0, none⟩)) (.pointer (some ⟨gb926, 2, none⟩)) (fa43_2_0 gb926) _ rfl rfl) rfl ?_)
            | ((with_reducible refine gate_d (N := 10) rfl ?_); refine ag_fix (.int .i64 a0_2) (ex_get sT3 gb926 (2) (.int .i64 a0_2) (#[.int .i64 a0_0, .int .i64 a0_1, .int .i64 a0_2, .bool true]) BKb926.out rfl _ rfl rfl) rfl ?_)
            | ((with_reducible refine gate_d (N := 12) rfl ?_); refine ag_fix (.pointer (some ⟨gb926, 0, none⟩)) (ex_field 43 0 (.pointer (some ⟨gb926, 0, none⟩)) (.pointer (some ⟨gb926, 0, none⟩)) (fa43_0_0 gb926) _ rfl rfl) rfl ?_)
            | ((with_reducible refine gate_d (N := 13) rfl ?_); refine ag_fix (.int .i64 a0_0) (ex_get sT3 gb926 (0) (.int .i64 a0_0) (#[.int .i64 a0_0, .int .i64 a0_1, .int .i64 a0_2, .bool true]) BKb926.out rfl _ rfl rfl) rfl ?_)
            | ((with_reducible refine gate_d (N := 16) rfl ?_); refine ag_fix (.pointer (some ⟨gb926, 3, none⟩)) (ex_field 43 3 (.pointer (some ⟨gb926, 0, none⟩)) (.pointer (some ⟨gb926, 3, none⟩)) (fa43_3_0 gb926) _ rfl rfl) rfl ?_)
            | ((with_reducible refine gate_d (N := 17) rfl ?_); refine ag_fix (.bool true) (ex_get sT4 gb926 (3) (.bool true) (#[.int .i64 a0_0, .int .i64 a0_1, .int .i64 a0_2, .bool true]) BKb926.out rfl _ rfl rfl) rfl ?_)
            | ((with_reducible refine gate_d (N := 21) rfl ?_); refine ag_fix (.pointer (some ⟨gb926, 0, none⟩)) (ex_field 43 0 (.pointer (some ⟨gb926, 0, none⟩)) (.pointer (some ⟨gb926, 0, none⟩)) (fa43_0_0 gb926) _ rfl rfl) rfl ?_)
            | ((with_reducible refine gate_d (N := 22) rfl ?_); refine ag_fix (.int .i64 a0_0) (ex_get sT3 gb926 (0) (.int .i64 a0_0) (#[.int .i64 a0_0, .int .i64 a0_1, .int .i64 a0_2, .bool true]) BKb926.out rfl _ rfl rfl) rfl ?_)
            | ((with_reducible refine gate_d (N := 25) rfl ?_); refine ag_fix (.pointer (some ⟨gb926, 0, none⟩)) (ex_field 43 0 (.pointer (some ⟨gb926, 0, none⟩)) (.pointer (some ⟨gb926, 0, none⟩)) (fa43_0_0 gb926) _ rfl rfl) rfl ?_)
            | ((with_reducible refine gate_d (N := 26) rfl ?_); refine ag_fix (.int .i64 a0_0) (ex_get sT3 gb926 (0) (.int .i64 a0_0) (#[.int .i64 a0_0, .int .i64 a0_1, .int .i64 a0_2, .bool true]) BKb926.out rfl _ rfl rfl) rfl ?_))
          (try simp only [Act.put, List.setIfInBounds_toArray, List.set_cons_zero, List.set_cons_succ])
          go_ret
          exact ⟨by first | rfl | (simp; done) | (simp [*]; done), HL.out⟩
      | false =>
        rw [if_neg (show ¬ (false = true) by decide)] at H
        by_cases c932 : a0_0 = 7
        · rw [if_pos c932] at H
          exfalso
          clear H
          have := hc927.out; have := hc928.out; omega
        · rw [if_neg c932] at H
          have c932b0 : (a0_0 == 7) = false := beq_eq_false_iff_ne.mpr c932
          have c932b1 : (a0_0 != 7) = true := bne_iff_ne.mpr c932
          have hc932 := hid c932
          clear c932
          obtain rfl := Option.some.inj H
          clear H
          go_enter Try.func24, Try.ntmps24
          go_wp2_with (first
            | ((with_reducible refine gate_d (N := 1) rfl ?_); obtain ⟨gb926, hgb926⟩ : ∃ g_, w.heap.size = g_ := ⟨_, rfl⟩; refine ag_box #[.int .i64 a0_0, .int .i64 a0_1, .int .i64 a0_2, .bool false] gb926 hgb926 rfl _ rfl rfl ?_; intro w933 hb_ hB_ hs_; have GEb926 : Hid (w.heap.size ≤ gb926) := hid (by have := HL.out.size; omega); replace HL := hid (HL.out.trans (hb_.mono GEb926.out)); have BKb926 := hid hB_; clear hb_ hB_ hs_ hgb926)
            | ((with_reducible refine gate_d (N := 4) rfl ?_); refine ag_fix (.pointer (some ⟨gb926, 0, none⟩)) (ex_field 43 0 (.pointer (some ⟨gb926, 0, none⟩)) (.pointer (some ⟨gb926, 0, none⟩)) (fa43_0_0 gb926) _ rfl rfl) rfl ?_)
            | ((with_reducible refine gate_d (N := 5) rfl ?_); refine ag_fix (.int .i64 a0_0) (ex_get sT3 gb926 (0) (.int .i64 a0_0) (#[.int .i64 a0_0, .int .i64 a0_1, .int .i64 a0_2, .bool false]) BKb926.out rfl _ rfl rfl) rfl ?_)
            | ((with_reducible refine gate_d (N := 7) rfl ?_); refine ag_fix (.pointer (some ⟨gb926, 2, none⟩)) (ex_field 43 2 (.pointer (some ⟨gb926, 0, none⟩)) (.pointer (some ⟨gb926, 2, none⟩)) (fa43_2_0 gb926) _ rfl rfl) rfl ?_)
            | ((with_reducible refine gate_d (N := 8) rfl ?_); refine ag_fix (.int .i64 a0_2) (ex_get sT3 gb926 (2) (.int .i64 a0_2) (#[.int .i64 a0_0, .int .i64 a0_1, .int .i64 a0_2, .bool false]) BKb926.out rfl _ rfl rfl) rfl ?_)
            | ((with_reducible refine gate_d (N := 9) rfl ?_); refine ag_fix (.pointer (some ⟨gb926, 2, none⟩)) (ex_field 43 2 (.pointer (some ⟨gb926, 0, none⟩)) (.pointer (some ⟨gb926, 2, none⟩)) (fa43_2_0 gb926) _ rfl rfl) rfl ?_)
            | ((with_reducible refine gate_d (N := 10) rfl ?_); refine ag_fix (.int .i64 a0_2) (ex_get sT3 gb926 (2) (.int .i64 a0_2) (#[.int .i64 a0_0, .int .i64 a0_1, .int .i64 a0_2, .bool false]) BKb926.out rfl _ rfl rfl) rfl ?_)
            | ((with_reducible refine gate_d (N := 12) rfl ?_); refine ag_fix (.pointer (some ⟨gb926, 0, none⟩)) (ex_field 43 0 (.pointer (some ⟨gb926, 0, none⟩)) (.pointer (some ⟨gb926, 0, none⟩)) (fa43_0_0 gb926) _ rfl rfl) rfl ?_)
            | ((with_reducible refine gate_d (N := 13) rfl ?_); refine ag_fix (.int .i64 a0_0) (ex_get sT3 gb926 (0) (.int .i64 a0_0) (#[.int .i64 a0_0, .int .i64 a0_1, .int .i64 a0_2, .bool false]) BKb926.out rfl _ rfl rfl) rfl ?_)
            | ((with_reducible refine gate_d (N := 16) rfl ?_); refine ag_fix (.pointer (some ⟨gb926, 3, none⟩)) (ex_field 43 3 (.pointer (some ⟨gb926, 0, none⟩)) (.pointer (some ⟨gb926, 3, none⟩)) (fa43_3_0 gb926) _ rfl rfl) rfl ?_)
            | ((with_reducible refine gate_d (N := 17) rfl ?_); refine ag_fix (.bool false) (ex_get sT4 gb926 (3) (.bool false) (#[.int .i64 a0_0, .int .i64 a0_1, .int .i64 a0_2, .bool false]) BKb926.out rfl _ rfl rfl) rfl ?_)
            | ((with_reducible refine gate_d (N := 21) rfl ?_); refine ag_fix (.pointer (some ⟨gb926, 0, none⟩)) (ex_field 43 0 (.pointer (some ⟨gb926, 0, none⟩)) (.pointer (some ⟨gb926, 0, none⟩)) (fa43_0_0 gb926) _ rfl rfl) rfl ?_)
            | ((with_reducible refine gate_d (N := 22) rfl ?_); refine ag_fix (.int .i64 a0_0) (ex_get sT3 gb926 (0) (.int .i64 a0_0) (#[.int .i64 a0_0, .int .i64 a0_1, .int .i64 a0_2, .bool false]) BKb926.out rfl _ rfl rfl) rfl ?_)
            | ((with_reducible refine gate_d (N := 25) rfl ?_); refine ag_fix (.pointer (some ⟨gb926, 0, none⟩)) (ex_field 43 0 (.pointer (some ⟨gb926, 0, none⟩)) (.pointer (some ⟨gb926, 0, none⟩)) (fa43_0_0 gb926) _ rfl rfl) rfl ?_)
            | ((with_reducible refine gate_d (N := 26) rfl ?_); refine ag_fix (.int .i64 a0_0) (ex_get sT3 gb926 (0) (.int .i64 a0_0) (#[.int .i64 a0_0, .int .i64 a0_1, .int .i64 a0_2, .bool false]) BKb926.out rfl _ rfl rfl) rfl ?_))
          (try simp only [Act.put, List.setIfInBounds_toArray, List.set_cons_zero, List.set_cons_succ])
          go_ret
          exact ⟨by first | rfl | (simp; done) | (simp [*]; done), HL.out⟩
  · rw [if_neg c927] at H
    have c927b0 : (a0_0 == 5) = false := beq_eq_false_iff_ne.mpr c927
    have c927b1 : (a0_0 != 5) = true := bne_iff_ne.mpr c927
    have hc927 := hid c927
    clear c927
    by_cases c934 : a0_0 = 6
    · rw [if_pos c934] at H
      have c934b0 : (a0_0 == 6) = true := beq_iff_eq.mpr c934
      have c934b1 : (a0_0 != 6) = false := bne_eq_false_iff_eq.mpr c934
      have hc934 := hid c934
      clear c934
      obtain rfl := Option.some.inj H
      clear H
      go_enter Try.func24, Try.ntmps24
      go_wp2_with (first
        | ((with_reducible refine gate_d (N := 1) rfl ?_); obtain ⟨gb926, hgb926⟩ : ∃ g_, w.heap.size = g_ := ⟨_, rfl⟩; refine ag_box #[.int .i64 a0_0, .int .i64 a0_1, .int .i64 a0_2, .bool a0_3] gb926 hgb926 rfl _ rfl rfl ?_; intro w935 hb_ hB_ hs_; have GEb926 : Hid (w.heap.size ≤ gb926) := hid (by have := HL.out.size; omega); replace HL := hid (HL.out.trans (hb_.mono GEb926.out)); have BKb926 := hid hB_; clear hb_ hB_ hs_ hgb926)
        | ((with_reducible refine gate_d (N := 4) rfl ?_); refine ag_fix (.pointer (some ⟨gb926, 0, none⟩)) (ex_field 43 0 (.pointer (some ⟨gb926, 0, none⟩)) (.pointer (some ⟨gb926, 0, none⟩)) (fa43_0_0 gb926) _ rfl rfl) rfl ?_)
        | ((with_reducible refine gate_d (N := 5) rfl ?_); refine ag_fix (.int .i64 a0_0) (ex_get sT3 gb926 (0) (.int .i64 a0_0) (#[.int .i64 a0_0, .int .i64 a0_1, .int .i64 a0_2, .bool a0_3]) BKb926.out rfl _ rfl rfl) rfl ?_)
        | ((with_reducible refine gate_d (N := 12) rfl ?_); refine ag_fix (.pointer (some ⟨gb926, 0, none⟩)) (ex_field 43 0 (.pointer (some ⟨gb926, 0, none⟩)) (.pointer (some ⟨gb926, 0, none⟩)) (fa43_0_0 gb926) _ rfl rfl) rfl ?_)
        | ((with_reducible refine gate_d (N := 13) rfl ?_); refine ag_fix (.int .i64 a0_0) (ex_get sT3 gb926 (0) (.int .i64 a0_0) (#[.int .i64 a0_0, .int .i64 a0_1, .int .i64 a0_2, .bool a0_3]) BKb926.out rfl _ rfl rfl) rfl ?_)
        | ((with_reducible refine gate_d (N := 21) rfl ?_); refine ag_fix (.pointer (some ⟨gb926, 0, none⟩)) (ex_field 43 0 (.pointer (some ⟨gb926, 0, none⟩)) (.pointer (some ⟨gb926, 0, none⟩)) (fa43_0_0 gb926) _ rfl rfl) rfl ?_)
        | ((with_reducible refine gate_d (N := 22) rfl ?_); refine ag_fix (.int .i64 a0_0) (ex_get sT3 gb926 (0) (.int .i64 a0_0) (#[.int .i64 a0_0, .int .i64 a0_1, .int .i64 a0_2, .bool a0_3]) BKb926.out rfl _ rfl rfl) rfl ?_)
        | ((with_reducible refine gate_d (N := 30) rfl ?_); refine ag_fix (.pointer (some ⟨gb926, 2, none⟩)) (ex_field 43 2 (.pointer (some ⟨gb926, 0, none⟩)) (.pointer (some ⟨gb926, 2, none⟩)) (fa43_2_0 gb926) _ rfl rfl) rfl ?_)
        | ((with_reducible refine gate_d (N := 31) rfl ?_); refine ag_fix (.int .i64 a0_2) (ex_get sT3 gb926 (2) (.int .i64 a0_2) (#[.int .i64 a0_0, .int .i64 a0_1, .int .i64 a0_2, .bool a0_3]) BKb926.out rfl _ rfl rfl) rfl ?_))
      (try simp only [Act.put, List.setIfInBounds_toArray, List.set_cons_zero, List.set_cons_succ])
      go_ret
      exact ⟨by first | rfl | (simp; done) | (simp [*]; done), HL.out⟩
    · rw [if_neg c934] at H
      have c934b0 : (a0_0 == 6) = false := beq_eq_false_iff_ne.mpr c934
      have c934b1 : (a0_0 != 6) = true := bne_iff_ne.mpr c934
      have hc934 := hid c934
      clear c934
      cases a0_3 with
      | true =>
        rw [if_pos rfl] at H
        by_cases c937 : a0_0 = 7
        · rw [if_pos c937] at H
          have c937b0 : (a0_0 == 7) = true := beq_iff_eq.mpr c937
          have c937b1 : (a0_0 != 7) = false := bne_eq_false_iff_eq.mpr c937
          have hc937 := hid c937
          clear c937
          obtain rfl := Option.some.inj H
          clear H
          go_enter Try.func24, Try.ntmps24
          go_wp2_with (first
            | ((with_reducible refine gate_d (N := 1) rfl ?_); obtain ⟨gb926, hgb926⟩ : ∃ g_, w.heap.size = g_ := ⟨_, rfl⟩; refine ag_box #[.int .i64 a0_0, .int .i64 a0_1, .int .i64 a0_2, .bool true] gb926 hgb926 rfl _ rfl rfl ?_; intro w938 hb_ hB_ hs_; have GEb926 : Hid (w.heap.size ≤ gb926) := hid (by have := HL.out.size; omega); replace HL := hid (HL.out.trans (hb_.mono GEb926.out)); have BKb926 := hid hB_; clear hb_ hB_ hs_ hgb926)
            | ((with_reducible refine gate_d (N := 4) rfl ?_); refine ag_fix (.pointer (some ⟨gb926, 0, none⟩)) (ex_field 43 0 (.pointer (some ⟨gb926, 0, none⟩)) (.pointer (some ⟨gb926, 0, none⟩)) (fa43_0_0 gb926) _ rfl rfl) rfl ?_)
            | ((with_reducible refine gate_d (N := 5) rfl ?_); refine ag_fix (.int .i64 a0_0) (ex_get sT3 gb926 (0) (.int .i64 a0_0) (#[.int .i64 a0_0, .int .i64 a0_1, .int .i64 a0_2, .bool true]) BKb926.out rfl _ rfl rfl) rfl ?_)
            | ((with_reducible refine gate_d (N := 12) rfl ?_); refine ag_fix (.pointer (some ⟨gb926, 0, none⟩)) (ex_field 43 0 (.pointer (some ⟨gb926, 0, none⟩)) (.pointer (some ⟨gb926, 0, none⟩)) (fa43_0_0 gb926) _ rfl rfl) rfl ?_)
            | ((with_reducible refine gate_d (N := 13) rfl ?_); refine ag_fix (.int .i64 a0_0) (ex_get sT3 gb926 (0) (.int .i64 a0_0) (#[.int .i64 a0_0, .int .i64 a0_1, .int .i64 a0_2, .bool true]) BKb926.out rfl _ rfl rfl) rfl ?_)
            | ((with_reducible refine gate_d (N := 16) rfl ?_); refine ag_fix (.pointer (some ⟨gb926, 3, none⟩)) (ex_field 43 3 (.pointer (some ⟨gb926, 0, none⟩)) (.pointer (some ⟨gb926, 3, none⟩)) (fa43_3_0 gb926) _ rfl rfl) rfl ?_)
            | ((with_reducible refine gate_d (N := 17) rfl ?_); refine ag_fix (.bool true) (ex_get sT4 gb926 (3) (.bool true) (#[.int .i64 a0_0, .int .i64 a0_1, .int .i64 a0_2, .bool true]) BKb926.out rfl _ rfl rfl) rfl ?_)
            | ((with_reducible refine gate_d (N := 21) rfl ?_); refine ag_fix (.pointer (some ⟨gb926, 0, none⟩)) (ex_field 43 0 (.pointer (some ⟨gb926, 0, none⟩)) (.pointer (some ⟨gb926, 0, none⟩)) (fa43_0_0 gb926) _ rfl rfl) rfl ?_)
            | ((with_reducible refine gate_d (N := 22) rfl ?_); refine ag_fix (.int .i64 a0_0) (ex_get sT3 gb926 (0) (.int .i64 a0_0) (#[.int .i64 a0_0, .int .i64 a0_1, .int .i64 a0_2, .bool true]) BKb926.out rfl _ rfl rfl) rfl ?_)
            | ((with_reducible refine gate_d (N := 25) rfl ?_); refine ag_fix (.pointer (some ⟨gb926, 0, none⟩)) (ex_field 43 0 (.pointer (some ⟨gb926, 0, none⟩)) (.pointer (some ⟨gb926, 0, none⟩)) (fa43_0_0 gb926) _ rfl rfl) rfl ?_)
            | ((with_reducible refine gate_d (N := 26) rfl ?_); refine ag_fix (.int .i64 a0_0) (ex_get sT3 gb926 (0) (.int .i64 a0_0) (#[.int .i64 a0_0, .int .i64 a0_1, .int .i64 a0_2, .bool true]) BKb926.out rfl _ rfl rfl) rfl ?_)
            | ((with_reducible refine gate_d (N := 30) rfl ?_); refine ag_fix (.pointer (some ⟨gb926, 2, none⟩)) (ex_field 43 2 (.pointer (some ⟨gb926, 0, none⟩)) (.pointer (some ⟨gb926, 2, none⟩)) (fa43_2_0 gb926) _ rfl rfl) rfl ?_)
            | ((with_reducible refine gate_d (N := 31) rfl ?_); refine ag_fix (.int .i64 a0_2) (ex_get sT3 gb926 (2) (.int .i64 a0_2) (#[.int .i64 a0_0, .int .i64 a0_1, .int .i64 a0_2, .bool true]) BKb926.out rfl _ rfl rfl) rfl ?_))
          (try simp only [Act.put, List.setIfInBounds_toArray, List.set_cons_zero, List.set_cons_succ])
          go_ret
          exact ⟨by first | rfl | (simp; done) | (simp [*]; done), HL.out⟩
        · rw [if_neg c937] at H
          have c937b0 : (a0_0 == 7) = false := beq_eq_false_iff_ne.mpr c937
          have c937b1 : (a0_0 != 7) = true := bne_iff_ne.mpr c937
          have hc937 := hid c937
          clear c937
          obtain rfl := Option.some.inj H
          clear H
          go_enter Try.func24, Try.ntmps24
          go_wp2_with (first
            | ((with_reducible refine gate_d (N := 1) rfl ?_); obtain ⟨gb926, hgb926⟩ : ∃ g_, w.heap.size = g_ := ⟨_, rfl⟩; refine ag_box #[.int .i64 a0_0, .int .i64 a0_1, .int .i64 a0_2, .bool true] gb926 hgb926 rfl _ rfl rfl ?_; intro w939 hb_ hB_ hs_; have GEb926 : Hid (w.heap.size ≤ gb926) := hid (by have := HL.out.size; omega); replace HL := hid (HL.out.trans (hb_.mono GEb926.out)); have BKb926 := hid hB_; clear hb_ hB_ hs_ hgb926)
            | ((with_reducible refine gate_d (N := 4) rfl ?_); refine ag_fix (.pointer (some ⟨gb926, 0, none⟩)) (ex_field 43 0 (.pointer (some ⟨gb926, 0, none⟩)) (.pointer (some ⟨gb926, 0, none⟩)) (fa43_0_0 gb926) _ rfl rfl) rfl ?_)
            | ((with_reducible refine gate_d (N := 5) rfl ?_); refine ag_fix (.int .i64 a0_0) (ex_get sT3 gb926 (0) (.int .i64 a0_0) (#[.int .i64 a0_0, .int .i64 a0_1, .int .i64 a0_2, .bool true]) BKb926.out rfl _ rfl rfl) rfl ?_)
            | ((with_reducible refine gate_d (N := 12) rfl ?_); refine ag_fix (.pointer (some ⟨gb926, 0, none⟩)) (ex_field 43 0 (.pointer (some ⟨gb926, 0, none⟩)) (.pointer (some ⟨gb926, 0, none⟩)) (fa43_0_0 gb926) _ rfl rfl) rfl ?_)
            | ((with_reducible refine gate_d (N := 13) rfl ?_); refine ag_fix (.int .i64 a0_0) (ex_get sT3 gb926 (0) (.int .i64 a0_0) (#[.int .i64 a0_0, .int .i64 a0_1, .int .i64 a0_2, .bool true]) BKb926.out rfl _ rfl rfl) rfl ?_)
            | ((with_reducible refine gate_d (N := 16) rfl ?_); refine ag_fix (.pointer (some ⟨gb926, 3, none⟩)) (ex_field 43 3 (.pointer (some ⟨gb926, 0, none⟩)) (.pointer (some ⟨gb926, 3, none⟩)) (fa43_3_0 gb926) _ rfl rfl) rfl ?_)
            | ((with_reducible refine gate_d (N := 17) rfl ?_); refine ag_fix (.bool true) (ex_get sT4 gb926 (3) (.bool true) (#[.int .i64 a0_0, .int .i64 a0_1, .int .i64 a0_2, .bool true]) BKb926.out rfl _ rfl rfl) rfl ?_)
            | ((with_reducible refine gate_d (N := 21) rfl ?_); refine ag_fix (.pointer (some ⟨gb926, 0, none⟩)) (ex_field 43 0 (.pointer (some ⟨gb926, 0, none⟩)) (.pointer (some ⟨gb926, 0, none⟩)) (fa43_0_0 gb926) _ rfl rfl) rfl ?_)
            | ((with_reducible refine gate_d (N := 22) rfl ?_); refine ag_fix (.int .i64 a0_0) (ex_get sT3 gb926 (0) (.int .i64 a0_0) (#[.int .i64 a0_0, .int .i64 a0_1, .int .i64 a0_2, .bool true]) BKb926.out rfl _ rfl rfl) rfl ?_)
            | ((with_reducible refine gate_d (N := 25) rfl ?_); refine ag_fix (.pointer (some ⟨gb926, 0, none⟩)) (ex_field 43 0 (.pointer (some ⟨gb926, 0, none⟩)) (.pointer (some ⟨gb926, 0, none⟩)) (fa43_0_0 gb926) _ rfl rfl) rfl ?_)
            | ((with_reducible refine gate_d (N := 26) rfl ?_); refine ag_fix (.int .i64 a0_0) (ex_get sT3 gb926 (0) (.int .i64 a0_0) (#[.int .i64 a0_0, .int .i64 a0_1, .int .i64 a0_2, .bool true]) BKb926.out rfl _ rfl rfl) rfl ?_))
          (try simp only [Act.put, List.setIfInBounds_toArray, List.set_cons_zero, List.set_cons_succ])
          go_ret
          exact ⟨by first | rfl | (simp; done) | (simp [*]; done), HL.out⟩
      | false =>
        rw [if_neg (show ¬ (false = true) by decide)] at H
        by_cases c940 : a0_0 = 7
        · rw [if_pos c940] at H
          have c940b0 : (a0_0 == 7) = true := beq_iff_eq.mpr c940
          have c940b1 : (a0_0 != 7) = false := bne_eq_false_iff_eq.mpr c940
          have hc940 := hid c940
          clear c940
          obtain rfl := Option.some.inj H
          clear H
          go_enter Try.func24, Try.ntmps24
          go_wp2_with (first
            | ((with_reducible refine gate_d (N := 1) rfl ?_); obtain ⟨gb926, hgb926⟩ : ∃ g_, w.heap.size = g_ := ⟨_, rfl⟩; refine ag_box #[.int .i64 a0_0, .int .i64 a0_1, .int .i64 a0_2, .bool false] gb926 hgb926 rfl _ rfl rfl ?_; intro w941 hb_ hB_ hs_; have GEb926 : Hid (w.heap.size ≤ gb926) := hid (by have := HL.out.size; omega); replace HL := hid (HL.out.trans (hb_.mono GEb926.out)); have BKb926 := hid hB_; clear hb_ hB_ hs_ hgb926)
            | ((with_reducible refine gate_d (N := 4) rfl ?_); refine ag_fix (.pointer (some ⟨gb926, 0, none⟩)) (ex_field 43 0 (.pointer (some ⟨gb926, 0, none⟩)) (.pointer (some ⟨gb926, 0, none⟩)) (fa43_0_0 gb926) _ rfl rfl) rfl ?_)
            | ((with_reducible refine gate_d (N := 5) rfl ?_); refine ag_fix (.int .i64 a0_0) (ex_get sT3 gb926 (0) (.int .i64 a0_0) (#[.int .i64 a0_0, .int .i64 a0_1, .int .i64 a0_2, .bool false]) BKb926.out rfl _ rfl rfl) rfl ?_)
            | ((with_reducible refine gate_d (N := 12) rfl ?_); refine ag_fix (.pointer (some ⟨gb926, 0, none⟩)) (ex_field 43 0 (.pointer (some ⟨gb926, 0, none⟩)) (.pointer (some ⟨gb926, 0, none⟩)) (fa43_0_0 gb926) _ rfl rfl) rfl ?_)
            | ((with_reducible refine gate_d (N := 13) rfl ?_); refine ag_fix (.int .i64 a0_0) (ex_get sT3 gb926 (0) (.int .i64 a0_0) (#[.int .i64 a0_0, .int .i64 a0_1, .int .i64 a0_2, .bool false]) BKb926.out rfl _ rfl rfl) rfl ?_)
            | ((with_reducible refine gate_d (N := 16) rfl ?_); refine ag_fix (.pointer (some ⟨gb926, 3, none⟩)) (ex_field 43 3 (.pointer (some ⟨gb926, 0, none⟩)) (.pointer (some ⟨gb926, 3, none⟩)) (fa43_3_0 gb926) _ rfl rfl) rfl ?_)
            | ((with_reducible refine gate_d (N := 17) rfl ?_); refine ag_fix (.bool false) (ex_get sT4 gb926 (3) (.bool false) (#[.int .i64 a0_0, .int .i64 a0_1, .int .i64 a0_2, .bool false]) BKb926.out rfl _ rfl rfl) rfl ?_)
            | ((with_reducible refine gate_d (N := 21) rfl ?_); refine ag_fix (.pointer (some ⟨gb926, 0, none⟩)) (ex_field 43 0 (.pointer (some ⟨gb926, 0, none⟩)) (.pointer (some ⟨gb926, 0, none⟩)) (fa43_0_0 gb926) _ rfl rfl) rfl ?_)
            | ((with_reducible refine gate_d (N := 22) rfl ?_); refine ag_fix (.int .i64 a0_0) (ex_get sT3 gb926 (0) (.int .i64 a0_0) (#[.int .i64 a0_0, .int .i64 a0_1, .int .i64 a0_2, .bool false]) BKb926.out rfl _ rfl rfl) rfl ?_)
            | ((with_reducible refine gate_d (N := 25) rfl ?_); refine ag_fix (.pointer (some ⟨gb926, 0, none⟩)) (ex_field 43 0 (.pointer (some ⟨gb926, 0, none⟩)) (.pointer (some ⟨gb926, 0, none⟩)) (fa43_0_0 gb926) _ rfl rfl) rfl ?_)
            | ((with_reducible refine gate_d (N := 26) rfl ?_); refine ag_fix (.int .i64 a0_0) (ex_get sT3 gb926 (0) (.int .i64 a0_0) (#[.int .i64 a0_0, .int .i64 a0_1, .int .i64 a0_2, .bool false]) BKb926.out rfl _ rfl rfl) rfl ?_)
            | ((with_reducible refine gate_d (N := 30) rfl ?_); refine ag_fix (.pointer (some ⟨gb926, 2, none⟩)) (ex_field 43 2 (.pointer (some ⟨gb926, 0, none⟩)) (.pointer (some ⟨gb926, 2, none⟩)) (fa43_2_0 gb926) _ rfl rfl) rfl ?_)
            | ((with_reducible refine gate_d (N := 31) rfl ?_); refine ag_fix (.int .i64 a0_2) (ex_get sT3 gb926 (2) (.int .i64 a0_2) (#[.int .i64 a0_0, .int .i64 a0_1, .int .i64 a0_2, .bool false]) BKb926.out rfl _ rfl rfl) rfl ?_))
          (try simp only [Act.put, List.setIfInBounds_toArray, List.set_cons_zero, List.set_cons_succ])
          go_ret
          exact ⟨by first | rfl | (simp; done) | (simp [*]; done), HL.out⟩
        · rw [if_neg c940] at H
          have c940b0 : (a0_0 == 7) = false := beq_eq_false_iff_ne.mpr c940
          have c940b1 : (a0_0 != 7) = true := bne_iff_ne.mpr c940
          have hc940 := hid c940
          clear c940
          obtain rfl := Option.some.inj H
          clear H
          go_enter Try.func24, Try.ntmps24
          go_wp2_with (first
            | ((with_reducible refine gate_d (N := 1) rfl ?_); obtain ⟨gb926, hgb926⟩ : ∃ g_, w.heap.size = g_ := ⟨_, rfl⟩; refine ag_box #[.int .i64 a0_0, .int .i64 a0_1, .int .i64 a0_2, .bool false] gb926 hgb926 rfl _ rfl rfl ?_; intro w942 hb_ hB_ hs_; have GEb926 : Hid (w.heap.size ≤ gb926) := hid (by have := HL.out.size; omega); replace HL := hid (HL.out.trans (hb_.mono GEb926.out)); have BKb926 := hid hB_; clear hb_ hB_ hs_ hgb926)
            | ((with_reducible refine gate_d (N := 4) rfl ?_); refine ag_fix (.pointer (some ⟨gb926, 0, none⟩)) (ex_field 43 0 (.pointer (some ⟨gb926, 0, none⟩)) (.pointer (some ⟨gb926, 0, none⟩)) (fa43_0_0 gb926) _ rfl rfl) rfl ?_)
            | ((with_reducible refine gate_d (N := 5) rfl ?_); refine ag_fix (.int .i64 a0_0) (ex_get sT3 gb926 (0) (.int .i64 a0_0) (#[.int .i64 a0_0, .int .i64 a0_1, .int .i64 a0_2, .bool false]) BKb926.out rfl _ rfl rfl) rfl ?_)
            | ((with_reducible refine gate_d (N := 12) rfl ?_); refine ag_fix (.pointer (some ⟨gb926, 0, none⟩)) (ex_field 43 0 (.pointer (some ⟨gb926, 0, none⟩)) (.pointer (some ⟨gb926, 0, none⟩)) (fa43_0_0 gb926) _ rfl rfl) rfl ?_)
            | ((with_reducible refine gate_d (N := 13) rfl ?_); refine ag_fix (.int .i64 a0_0) (ex_get sT3 gb926 (0) (.int .i64 a0_0) (#[.int .i64 a0_0, .int .i64 a0_1, .int .i64 a0_2, .bool false]) BKb926.out rfl _ rfl rfl) rfl ?_)
            | ((with_reducible refine gate_d (N := 16) rfl ?_); refine ag_fix (.pointer (some ⟨gb926, 3, none⟩)) (ex_field 43 3 (.pointer (some ⟨gb926, 0, none⟩)) (.pointer (some ⟨gb926, 3, none⟩)) (fa43_3_0 gb926) _ rfl rfl) rfl ?_)
            | ((with_reducible refine gate_d (N := 17) rfl ?_); refine ag_fix (.bool false) (ex_get sT4 gb926 (3) (.bool false) (#[.int .i64 a0_0, .int .i64 a0_1, .int .i64 a0_2, .bool false]) BKb926.out rfl _ rfl rfl) rfl ?_)
            | ((with_reducible refine gate_d (N := 21) rfl ?_); refine ag_fix (.pointer (some ⟨gb926, 0, none⟩)) (ex_field 43 0 (.pointer (some ⟨gb926, 0, none⟩)) (.pointer (some ⟨gb926, 0, none⟩)) (fa43_0_0 gb926) _ rfl rfl) rfl ?_)
            | ((with_reducible refine gate_d (N := 22) rfl ?_); refine ag_fix (.int .i64 a0_0) (ex_get sT3 gb926 (0) (.int .i64 a0_0) (#[.int .i64 a0_0, .int .i64 a0_1, .int .i64 a0_2, .bool false]) BKb926.out rfl _ rfl rfl) rfl ?_)
            | ((with_reducible refine gate_d (N := 25) rfl ?_); refine ag_fix (.pointer (some ⟨gb926, 0, none⟩)) (ex_field 43 0 (.pointer (some ⟨gb926, 0, none⟩)) (.pointer (some ⟨gb926, 0, none⟩)) (fa43_0_0 gb926) _ rfl rfl) rfl ?_)
            | ((with_reducible refine gate_d (N := 26) rfl ?_); refine ag_fix (.int .i64 a0_0) (ex_get sT3 gb926 (0) (.int .i64 a0_0) (#[.int .i64 a0_0, .int .i64 a0_1, .int .i64 a0_2, .bool false]) BKb926.out rfl _ rfl rfl) rfl ?_))
          (try simp only [Act.put, List.setIfInBounds_toArray, List.set_cons_zero, List.set_cons_succ])
          go_ret
          exact ⟨by first | rfl | (simp; done) | (simp [*]; done), HL.out⟩
end Go.Proofs.Ytabbkeliknidgaa
