import Derived.Test.YtaipghemddjecaaProg
import Derived.Test.YtaipghemddjecaaL1wz
import Derived.Test.YtaipghemddjecaaL2wz
import Derived.Test.YtaipghemddjecaaRgz
namespace Go.Proofs.Ytaipghemddjecaa
open Go.RowKit
set_option linter.unusedVariables false
set_option linter.unusedSimpArgs false
set_option maxRecDepth 100000
theorem fa29_0_0 (g : Nat) (w : World) : (Instr.fieldAt 29 (.pointer (some ⟨g, 0, none⟩)) 0).run Try.prog w = .ok (.pointer (some ⟨g, 0, none⟩)) w := by kernel_rfl
theorem fa29_2_0 (g : Nat) (w : World) : (Instr.fieldAt 29 (.pointer (some ⟨g, 0, none⟩)) 2).run Try.prog w = .ok (.pointer (some ⟨g, 2, none⟩)) w := by kernel_rfl
theorem fa29_1_0 (g : Nat) (w : World) : (Instr.fieldAt 29 (.pointer (some ⟨g, 0, none⟩)) 1).run Try.prog w = .ok (.pointer (some ⟨g, 1, none⟩)) w := by kernel_rfl
theorem fa29_3_0 (g : Nat) (w : World) : (Instr.fieldAt 29 (.pointer (some ⟨g, 0, none⟩)) 3).run Try.prog w = .ok (.pointer (some ⟨g, 3, none⟩)) w := by kernel_rfl
theorem sT4 : ScT Try.prog 4 := ⟨fun w => by kernel_rfl, fun w => by kernel_rfl⟩
theorem aT29_agg (w : World) : (isAgg 29).run Try.prog w = .ok true w := by kernel_rfl
theorem aT29_size (w : World) : (sizeOf 29).run Try.prog w = .ok 4 w := by kernel_rfl
theorem aT29_zero (w : World) : (zeroValue 29).run Try.prog w = .ok (.agg #[.int .i64 0, .int .i64 0, .int .i64 0, .bool false]) w := by kernel_rfl
theorem aT29 : AggT Try.prog 29 4 #[.int .i64 0, .int .i64 0, .int .i64 0, .bool false] := ⟨aT29_agg, aT29_size, aT29_zero, by first | rfl | decide⟩
def i_stip_right.f (a0_0 : Int) (a0_1 : Int) (a0_2 : Int) (a0_3 : Bool) : Option (Bool) := if a0_0 < 1 then (some false) else (if a0_0 > 8 then (some false) else (if a0_2 > 64 then (some false) else (if a0_2 < 0 then (some false) else (if a0_0 = 8 then (if a0_1 = 0 then (if a0_3 = true then (some false) else (some (decide (a0_2 > 0)))) else (some false)) else (if a0_1 < 1 then (some false) else (if a0_1 > 2 then (some false) else (if a0_0 = 5 then (if a0_2 > 0 then (some true) else (some a0_3)) else (if a0_2 > 0 then (some (!a0_3)) else (some false)))))))))
set_option maxHeartbeats 40000000 in
set_option maxRecDepth 100000 in
theorem i_stip_right.calls (a0_0 : Int) (a0_1 : Int) (a0_2 : Int) (a0_3 : Bool) (r1 : Bool) (w : World) (h : i_stip_right.f a0_0 a0_1 a0_2 a0_3 = some r1) :
    Calls Try.prog 29 #[.agg #[.int .i64 a0_0, .int .i64 a0_1, .int .i64 a0_2, .bool a0_3]] w fun e w' => e = .returned (.bool r1) ∧ Below w.heap.size w w' := by
 have HL := hid (Below.refl w.heap.size w)
 have H : (if a0_0 < 1 then (some false) else (if a0_0 > 8 then (some false) else (if a0_2 > 64 then (some false) else (if a0_2 < 0 then (some false) else (if a0_0 = 8 then (if a0_1 = 0 then (if a0_3 = true then (some false) else (some (decide (a0_2 > 0)))) else (some false)) else (if a0_1 < 1 then (some false) else (if a0_1 > 2 then (some false) else (if a0_0 = 5 then (if a0_2 > 0 then (some true) else (some a0_3)) else (if a0_2 > 0 then (some (!a0_3)) else (some false)))))))))) = some r1 := h
 clear h
 by_cases c2 : a0_0 < 1
 ·
  rw [if_pos c2] at H
  have c2b0 : decide (a0_0 < 1) = true := decide_eq_true c2
  have hc2 := hid c2
  clear c2
  obtain rfl := Option.some.inj H
  clear H
  go_enter Try.func29, Try.ntmps29
  go_wp2_with (first
   | ((with_reducible refine gate_d (N := 1) rfl ?_); obtain ⟨gb1, hgb1⟩ : ∃ g_, w.heap.size = g_ := ⟨_, rfl⟩; refine ag_box #[.int .i64 a0_0, .int .i64 a0_1, .int .i64 a0_2, .bool a0_3] gb1 hgb1 rfl _ rfl rfl ?_; intro w3 hb_ hB_ hs_; have GEb1 : Hid (w.heap.size ≤ gb1) := hid (by have := HL.out.size; omega); replace HL := hid (HL.out.trans (hb_.mono GEb1.out)); have BKb1 := hid hB_; clear hb_ hB_ hs_ hgb1)
   | ((with_reducible refine gate_d (N := 4) rfl ?_); refine ag_fix (.pointer (some ⟨gb1, 0, none⟩)) (ex_field 29 0 (.pointer (some ⟨gb1, 0, none⟩)) (.pointer (some ⟨gb1, 0, none⟩)) (fa29_0_0 gb1) _ rfl rfl) rfl ?_)
   | ((with_reducible refine gate_d (N := 5) rfl ?_); refine ag_fix (.int .i64 a0_0) (ex_get sT3 gb1 (0) (.int .i64 a0_0) (#[.int .i64 a0_0, .int .i64 a0_1, .int .i64 a0_2, .bool a0_3]) BKb1.out rfl _ rfl rfl) rfl ?_))
  (try simp only [Act.put, sI, sZ, sS])
  go_ret
  exact ⟨by first | rfl | (simp; done) | (simp [*]; done), HL.out⟩
 ·
  rw [if_neg c2] at H
  have c2b0 : decide (a0_0 < 1) = false := decide_eq_false c2
  have hc2 := hid c2
  clear c2
  by_cases c4 : a0_0 > 8
  ·
   rw [if_pos c4] at H
   have c4b0 : decide (8 < a0_0) = true := decide_eq_true c4
   have hc4 := hid c4
   clear c4
   obtain rfl := Option.some.inj H
   clear H
   go_enter Try.func29, Try.ntmps29
   go_wp2_with (first
    | ((with_reducible refine gate_d (N := 1) rfl ?_); obtain ⟨gb1, hgb1⟩ : ∃ g_, w.heap.size = g_ := ⟨_, rfl⟩; refine ag_box #[.int .i64 a0_0, .int .i64 a0_1, .int .i64 a0_2, .bool a0_3] gb1 hgb1 rfl _ rfl rfl ?_; intro w5 hb_ hB_ hs_; have GEb1 : Hid (w.heap.size ≤ gb1) := hid (by have := HL.out.size; omega); replace HL := hid (HL.out.trans (hb_.mono GEb1.out)); have BKb1 := hid hB_; clear hb_ hB_ hs_ hgb1)
    | ((with_reducible refine gate_d (N := 4) rfl ?_); refine ag_fix (.pointer (some ⟨gb1, 0, none⟩)) (ex_field 29 0 (.pointer (some ⟨gb1, 0, none⟩)) (.pointer (some ⟨gb1, 0, none⟩)) (fa29_0_0 gb1) _ rfl rfl) rfl ?_)
    | ((with_reducible refine gate_d (N := 5) rfl ?_); refine ag_fix (.int .i64 a0_0) (ex_get sT3 gb1 (0) (.int .i64 a0_0) (#[.int .i64 a0_0, .int .i64 a0_1, .int .i64 a0_2, .bool a0_3]) BKb1.out rfl _ rfl rfl) rfl ?_)
    | ((with_reducible refine gate_d (N := 8) rfl ?_); refine ag_fix (.pointer (some ⟨gb1, 0, none⟩)) (ex_field 29 0 (.pointer (some ⟨gb1, 0, none⟩)) (.pointer (some ⟨gb1, 0, none⟩)) (fa29_0_0 gb1) _ rfl rfl) rfl ?_)
    | ((with_reducible refine gate_d (N := 9) rfl ?_); refine ag_fix (.int .i64 a0_0) (ex_get sT3 gb1 (0) (.int .i64 a0_0) (#[.int .i64 a0_0, .int .i64 a0_1, .int .i64 a0_2, .bool a0_3]) BKb1.out rfl _ rfl rfl) rfl ?_))
   (try simp only [Act.put, sI, sZ, sS])
   go_ret
   exact ⟨by first | rfl | (simp; done) | (simp [*]; done), HL.out⟩
  ·
   rw [if_neg c4] at H
   have c4b0 : decide (8 < a0_0) = false := decide_eq_false c4
   have hc4 := hid c4
   clear c4
   by_cases c6 : a0_2 > 64
   ·
    rw [if_pos c6] at H
    have c6b0 : decide (64 < a0_2) = true := decide_eq_true c6
    have hc6 := hid c6
    clear c6
    obtain rfl := Option.some.inj H
    clear H
    go_enter Try.func29, Try.ntmps29
    go_wp2_with (first
     | ((with_reducible refine gate_d (N := 1) rfl ?_); obtain ⟨gb1, hgb1⟩ : ∃ g_, w.heap.size = g_ := ⟨_, rfl⟩; refine ag_box #[.int .i64 a0_0, .int .i64 a0_1, .int .i64 a0_2, .bool a0_3] gb1 hgb1 rfl _ rfl rfl ?_; intro w7 hb_ hB_ hs_; have GEb1 : Hid (w.heap.size ≤ gb1) := hid (by have := HL.out.size; omega); replace HL := hid (HL.out.trans (hb_.mono GEb1.out)); have BKb1 := hid hB_; clear hb_ hB_ hs_ hgb1)
     | ((with_reducible refine gate_d (N := 4) rfl ?_); refine ag_fix (.pointer (some ⟨gb1, 0, none⟩)) (ex_field 29 0 (.pointer (some ⟨gb1, 0, none⟩)) (.pointer (some ⟨gb1, 0, none⟩)) (fa29_0_0 gb1) _ rfl rfl) rfl ?_)
     | ((with_reducible refine gate_d (N := 5) rfl ?_); refine ag_fix (.int .i64 a0_0) (ex_get sT3 gb1 (0) (.int .i64 a0_0) (#[.int .i64 a0_0, .int .i64 a0_1, .int .i64 a0_2, .bool a0_3]) BKb1.out rfl _ rfl rfl) rfl ?_)
     | ((with_reducible refine gate_d (N := 8) rfl ?_); refine ag_fix (.pointer (some ⟨gb1, 0, none⟩)) (ex_field 29 0 (.pointer (some ⟨gb1, 0, none⟩)) (.pointer (some ⟨gb1, 0, none⟩)) (fa29_0_0 gb1) _ rfl rfl) rfl ?_)
     | ((with_reducible refine gate_d (N := 9) rfl ?_); refine ag_fix (.int .i64 a0_0) (ex_get sT3 gb1 (0) (.int .i64 a0_0) (#[.int .i64 a0_0, .int .i64 a0_1, .int .i64 a0_2, .bool a0_3]) BKb1.out rfl _ rfl rfl) rfl ?_)
     | ((with_reducible refine gate_d (N := 13) rfl ?_); refine ag_fix (.pointer (some ⟨gb1, 2, none⟩)) (ex_field 29 2 (.pointer (some ⟨gb1, 0, none⟩)) (.pointer (some ⟨gb1, 2, none⟩)) (fa29_2_0 gb1) _ rfl rfl) rfl ?_)
     | ((with_reducible refine gate_d (N := 14) rfl ?_); refine ag_fix (.int .i64 a0_2) (ex_get sT3 gb1 (2) (.int .i64 a0_2) (#[.int .i64 a0_0, .int .i64 a0_1, .int .i64 a0_2, .bool a0_3]) BKb1.out rfl _ rfl rfl) rfl ?_))
    (try simp only [Act.put, sI, sZ, sS])
    go_ret
    exact ⟨by first | rfl | (simp; done) | (simp [*]; done), HL.out⟩
   ·
    rw [if_neg c6] at H
    have c6b0 : decide (64 < a0_2) = false := decide_eq_false c6
    have hc6 := hid c6
    clear c6
    by_cases c8 : a0_2 < 0
    ·
     rw [if_pos c8] at H
     have c8b0 : decide (a0_2 < 0) = true := decide_eq_true c8
     have hc8 := hid c8
     clear c8
     obtain rfl := Option.some.inj H
     clear H
     go_enter Try.func29, Try.ntmps29
     go_wp2_with (first
      | ((with_reducible refine gate_d (N := 1) rfl ?_); obtain ⟨gb1, hgb1⟩ : ∃ g_, w.heap.size = g_ := ⟨_, rfl⟩; refine ag_box #[.int .i64 a0_0, .int .i64 a0_1, .int .i64 a0_2, .bool a0_3] gb1 hgb1 rfl _ rfl rfl ?_; intro w9 hb_ hB_ hs_; have GEb1 : Hid (w.heap.size ≤ gb1) := hid (by have := HL.out.size; omega); replace HL := hid (HL.out.trans (hb_.mono GEb1.out)); have BKb1 := hid hB_; clear hb_ hB_ hs_ hgb1)
      | ((with_reducible refine gate_d (N := 4) rfl ?_); refine ag_fix (.pointer (some ⟨gb1, 0, none⟩)) (ex_field 29 0 (.pointer (some ⟨gb1, 0, none⟩)) (.pointer (some ⟨gb1, 0, none⟩)) (fa29_0_0 gb1) _ rfl rfl) rfl ?_)
      | ((with_reducible refine gate_d (N := 5) rfl ?_); refine ag_fix (.int .i64 a0_0) (ex_get sT3 gb1 (0) (.int .i64 a0_0) (#[.int .i64 a0_0, .int .i64 a0_1, .int .i64 a0_2, .bool a0_3]) BKb1.out rfl _ rfl rfl) rfl ?_)
      | ((with_reducible refine gate_d (N := 8) rfl ?_); refine ag_fix (.pointer (some ⟨gb1, 0, none⟩)) (ex_field 29 0 (.pointer (some ⟨gb1, 0, none⟩)) (.pointer (some ⟨gb1, 0, none⟩)) (fa29_0_0 gb1) _ rfl rfl) rfl ?_)
      | ((with_reducible refine gate_d (N := 9) rfl ?_); refine ag_fix (.int .i64 a0_0) (ex_get sT3 gb1 (0) (.int .i64 a0_0) (#[.int .i64 a0_0, .int .i64 a0_1, .int .i64 a0_2, .bool a0_3]) BKb1.out rfl _ rfl rfl) rfl ?_)
      | ((with_reducible refine gate_d (N := 13) rfl ?_); refine ag_fix (.pointer (some ⟨gb1, 2, none⟩)) (ex_field 29 2 (.pointer (some ⟨gb1, 0, none⟩)) (.pointer (some ⟨gb1, 2, none⟩)) (fa29_2_0 gb1) _ rfl rfl) rfl ?_)
      | ((with_reducible refine gate_d (N := 14) rfl ?_); refine ag_fix (.int .i64 a0_2) (ex_get sT3 gb1 (2) (.int .i64 a0_2) (#[.int .i64 a0_0, .int .i64 a0_1, .int .i64 a0_2, .bool a0_3]) BKb1.out rfl _ rfl rfl) rfl ?_)
      | ((with_reducible refine gate_d (N := 18) rfl ?_); refine ag_fix (.pointer (some ⟨gb1, 2, none⟩)) (ex_field 29 2 (.pointer (some ⟨gb1, 0, none⟩)) (.pointer (some ⟨gb1, 2, none⟩)) (fa29_2_0 gb1) _ rfl rfl) rfl ?_)
      | ((with_reducible refine gate_d (N := 19) rfl ?_); refine ag_fix (.int .i64 a0_2) (ex_get sT3 gb1 (2) (.int .i64 a0_2) (#[.int .i64 a0_0, .int .i64 a0_1, .int .i64 a0_2, .bool a0_3]) BKb1.out rfl _ rfl rfl) rfl ?_))
     (try simp only [Act.put, sI, sZ, sS])
     go_ret
     exact ⟨by first | rfl | (simp; done) | (simp [*]; done), HL.out⟩
    ·
     rw [if_neg c8] at H
     have c8b0 : decide (a0_2 < 0) = false := decide_eq_false c8
     have hc8 := hid c8
     clear c8
     by_cases c10 : a0_0 = 8
     ·
      rw [if_pos c10] at H
      have c10b0 : (a0_0 == 8) = true := beq_iff_eq.mpr c10
      have c10b1 : (a0_0 != 8) = false := bne_eq_false_iff_eq.mpr c10
      have hc10 := hid c10
      clear c10
      by_cases c11 : a0_1 = 0
      ·
       rw [if_pos c11] at H
       have c11b0 : (a0_1 == 0) = true := beq_iff_eq.mpr c11
       have c11b1 : (a0_1 != 0) = false := bne_eq_false_iff_eq.mpr c11
       have hc11 := hid c11
       clear c11
       cases a0_3 with
       | true =>
        rw [if_pos rfl] at H
        obtain rfl := Option.some.inj H
        clear H
        go_enter Try.func29, Try.ntmps29
        go_wp2_with (first
         | ((with_reducible refine gate_d (N := 1) rfl ?_); obtain ⟨gb1, hgb1⟩ : ∃ g_, w.heap.size = g_ := ⟨_, rfl⟩; refine ag_box #[.int .i64 a0_0, .int .i64 a0_1, .int .i64 a0_2, .bool true] gb1 hgb1 rfl _ rfl rfl ?_; intro w13 hb_ hB_ hs_; have GEb1 : Hid (w.heap.size ≤ gb1) := hid (by have := HL.out.size; omega); replace HL := hid (HL.out.trans (hb_.mono GEb1.out)); have BKb1 := hid hB_; clear hb_ hB_ hs_ hgb1)
         | ((with_reducible refine gate_d (N := 4) rfl ?_); refine ag_fix (.pointer (some ⟨gb1, 0, none⟩)) (ex_field 29 0 (.pointer (some ⟨gb1, 0, none⟩)) (.pointer (some ⟨gb1, 0, none⟩)) (fa29_0_0 gb1) _ rfl rfl) rfl ?_)
         | ((with_reducible refine gate_d (N := 5) rfl ?_); refine ag_fix (.int .i64 a0_0) (ex_get sT3 gb1 (0) (.int .i64 a0_0) (#[.int .i64 a0_0, .int .i64 a0_1, .int .i64 a0_2, .bool true]) BKb1.out rfl _ rfl rfl) rfl ?_)
         | ((with_reducible refine gate_d (N := 8) rfl ?_); refine ag_fix (.pointer (some ⟨gb1, 0, none⟩)) (ex_field 29 0 (.pointer (some ⟨gb1, 0, none⟩)) (.pointer (some ⟨gb1, 0, none⟩)) (fa29_0_0 gb1) _ rfl rfl) rfl ?_)
         | ((with_reducible refine gate_d (N := 9) rfl ?_); refine ag_fix (.int .i64 a0_0) (ex_get sT3 gb1 (0) (.int .i64 a0_0) (#[.int .i64 a0_0, .int .i64 a0_1, .int .i64 a0_2, .bool true]) BKb1.out rfl _ rfl rfl) rfl ?_)
         | ((with_reducible refine gate_d (N := 13) rfl ?_); refine ag_fix (.pointer (some ⟨gb1, 2, none⟩)) (ex_field 29 2 (.pointer (some ⟨gb1, 0, none⟩)) (.pointer (some ⟨gb1, 2, none⟩)) (fa29_2_0 gb1) _ rfl rfl) rfl ?_)
         | ((with_reducible refine gate_d (N := 14) rfl ?_); refine ag_fix (.int .i64 a0_2) (ex_get sT3 gb1 (2) (.int .i64 a0_2) (#[.int .i64 a0_0, .int .i64 a0_1, .int .i64 a0_2, .bool true]) BKb1.out rfl _ rfl rfl) rfl ?_)
         | ((with_reducible refine gate_d (N := 18) rfl ?_); refine ag_fix (.pointer (some ⟨gb1, 2, none⟩)) (ex_field 29 2 (.pointer (some ⟨gb1, 0, none⟩)) (.pointer (some ⟨gb1, 2, none⟩)) (fa29_2_0 gb1) _ rfl rfl) rfl ?_)
         | ((with_reducible refine gate_d (N := 19) rfl ?_); refine ag_fix (.int .i64 a0_2) (ex_get sT3 gb1 (2) (.int .i64 a0_2) (#[.int .i64 a0_0, .int .i64 a0_1, .int .i64 a0_2, .bool true]) BKb1.out rfl _ rfl rfl) rfl ?_)
         | ((with_reducible refine gate_d (N := 23) rfl ?_); refine ag_fix (.pointer (some ⟨gb1, 0, none⟩)) (ex_field 29 0 (.pointer (some ⟨gb1, 0, none⟩)) (.pointer (some ⟨gb1, 0, none⟩)) (fa29_0_0 gb1) _ rfl rfl) rfl ?_)
         | ((with_reducible refine gate_d (N := 24) rfl ?_); refine ag_fix (.int .i64 a0_0) (ex_get sT3 gb1 (0) (.int .i64 a0_0) (#[.int .i64 a0_0, .int .i64 a0_1, .int .i64 a0_2, .bool true]) BKb1.out rfl _ rfl rfl) rfl ?_)
         | ((with_reducible refine gate_d (N := 26) rfl ?_); refine ag_fix (.pointer (some ⟨gb1, 1, none⟩)) (ex_field 29 1 (.pointer (some ⟨gb1, 0, none⟩)) (.pointer (some ⟨gb1, 1, none⟩)) (fa29_1_0 gb1) _ rfl rfl) rfl ?_)
         | ((with_reducible refine gate_d (N := 27) rfl ?_); refine ag_fix (.int .i64 a0_1) (ex_get sT3 gb1 (1) (.int .i64 a0_1) (#[.int .i64 a0_0, .int .i64 a0_1, .int .i64 a0_2, .bool true]) BKb1.out rfl _ rfl rfl) rfl ?_)
         | ((with_reducible refine gate_d (N := 30) rfl ?_); refine ag_fix (.pointer (some ⟨gb1, 3, none⟩)) (ex_field 29 3 (.pointer (some ⟨gb1, 0, none⟩)) (.pointer (some ⟨gb1, 3, none⟩)) (fa29_3_0 gb1) _ rfl rfl) rfl ?_)
         | ((with_reducible refine gate_d (N := 31) rfl ?_); refine ag_fix (.bool true) (ex_get sT4 gb1 (3) (.bool true) (#[.int .i64 a0_0, .int .i64 a0_1, .int .i64 a0_2, .bool true]) BKb1.out rfl _ rfl rfl) rfl ?_))
        (try simp only [Act.put, sI, sZ, sS])
        go_ret
        exact ⟨by first | rfl | (simp; done) | (simp [*]; done), HL.out⟩
       | false =>
        rw [if_neg (show ¬ (false = true) by decide)] at H
        obtain rfl := Option.some.inj H
        clear H
        go_enter Try.func29, Try.ntmps29
        go_wp2_with (first
         | ((with_reducible refine gate_d (N := 1) rfl ?_); obtain ⟨gb1, hgb1⟩ : ∃ g_, w.heap.size = g_ := ⟨_, rfl⟩; refine ag_box #[.int .i64 a0_0, .int .i64 a0_1, .int .i64 a0_2, .bool false] gb1 hgb1 rfl _ rfl rfl ?_; intro w14 hb_ hB_ hs_; have GEb1 : Hid (w.heap.size ≤ gb1) := hid (by have := HL.out.size; omega); replace HL := hid (HL.out.trans (hb_.mono GEb1.out)); have BKb1 := hid hB_; clear hb_ hB_ hs_ hgb1)
         | ((with_reducible refine gate_d (N := 4) rfl ?_); refine ag_fix (.pointer (some ⟨gb1, 0, none⟩)) (ex_field 29 0 (.pointer (some ⟨gb1, 0, none⟩)) (.pointer (some ⟨gb1, 0, none⟩)) (fa29_0_0 gb1) _ rfl rfl) rfl ?_)
         | ((with_reducible refine gate_d (N := 5) rfl ?_); refine ag_fix (.int .i64 a0_0) (ex_get sT3 gb1 (0) (.int .i64 a0_0) (#[.int .i64 a0_0, .int .i64 a0_1, .int .i64 a0_2, .bool false]) BKb1.out rfl _ rfl rfl) rfl ?_)
         | ((with_reducible refine gate_d (N := 8) rfl ?_); refine ag_fix (.pointer (some ⟨gb1, 0, none⟩)) (ex_field 29 0 (.pointer (some ⟨gb1, 0, none⟩)) (.pointer (some ⟨gb1, 0, none⟩)) (fa29_0_0 gb1) _ rfl rfl) rfl ?_)
         | ((with_reducible refine gate_d (N := 9) rfl ?_); refine ag_fix (.int .i64 a0_0) (ex_get sT3 gb1 (0) (.int .i64 a0_0) (#[.int .i64 a0_0, .int .i64 a0_1, .int .i64 a0_2, .bool false]) BKb1.out rfl _ rfl rfl) rfl ?_)
         | ((with_reducible refine gate_d (N := 13) rfl ?_); refine ag_fix (.pointer (some ⟨gb1, 2, none⟩)) (ex_field 29 2 (.pointer (some ⟨gb1, 0, none⟩)) (.pointer (some ⟨gb1, 2, none⟩)) (fa29_2_0 gb1) _ rfl rfl) rfl ?_)
         | ((with_reducible refine gate_d (N := 14) rfl ?_); refine ag_fix (.int .i64 a0_2) (ex_get sT3 gb1 (2) (.int .i64 a0_2) (#[.int .i64 a0_0, .int .i64 a0_1, .int .i64 a0_2, .bool false]) BKb1.out rfl _ rfl rfl) rfl ?_)
         | ((with_reducible refine gate_d (N := 18) rfl ?_); refine ag_fix (.pointer (some ⟨gb1, 2, none⟩)) (ex_field 29 2 (.pointer (some ⟨gb1, 0, none⟩)) (.pointer (some ⟨gb1, 2, none⟩)) (fa29_2_0 gb1) _ rfl rfl) rfl ?_)
         | ((with_reducible refine gate_d (N := 19) rfl ?_); refine ag_fix (.int .i64 a0_2) (ex_get sT3 gb1 (2) (.int .i64 a0_2) (#[.int .i64 a0_0, .int .i64 a0_1, .int .i64 a0_2, .bool false]) BKb1.out rfl _ rfl rfl) rfl ?_)
         | ((with_reducible refine gate_d (N := 23) rfl ?_); refine ag_fix (.pointer (some ⟨gb1, 0, none⟩)) (ex_field 29 0 (.pointer (some ⟨gb1, 0, none⟩)) (.pointer (some ⟨gb1, 0, none⟩)) (fa29_0_0 gb1) _ rfl rfl) rfl ?_)
         | ((with_reducible refine gate_d (N := 24) rfl ?_); refine ag_fix (.int .i64 a0_0) (ex_get sT3 gb1 (0) (.int .i64 a0_0) (#[.int .i64 a0_0, .int .i64 a0_1, .int .i64 a0_2, .bool false]) BKb1.out rfl _ rfl rfl) rfl ?_)
         | ((with_reducible refine gate_d (N := 26) rfl ?_); refine ag_fix (.pointer (some ⟨gb1, 1, none⟩)) (ex_field 29 1 (.pointer (some ⟨gb1, 0, none⟩)) (.pointer (some ⟨gb1, 1, none⟩)) (fa29_1_0 gb1) _ rfl rfl) rfl ?_)
         | ((with_reducible refine gate_d (N := 27) rfl ?_); refine ag_fix (.int .i64 a0_1) (ex_get sT3 gb1 (1) (.int .i64 a0_1) (#[.int .i64 a0_0, .int .i64 a0_1, .int .i64 a0_2, .bool false]) BKb1.out rfl _ rfl rfl) rfl ?_)
         | ((with_reducible refine gate_d (N := 30) rfl ?_); refine ag_fix (.pointer (some ⟨gb1, 3, none⟩)) (ex_field 29 3 (.pointer (some ⟨gb1, 0, none⟩)) (.pointer (some ⟨gb1, 3, none⟩)) (fa29_3_0 gb1) _ rfl rfl) rfl ?_)
         | ((with_reducible refine gate_d (N := 31) rfl ?_); refine ag_fix (.bool false) (ex_get sT4 gb1 (3) (.bool false) (#[.int .i64 a0_0, .int .i64 a0_1, .int .i64 a0_2, .bool false]) BKb1.out rfl _ rfl rfl) rfl ?_)
         | ((with_reducible refine gate_d (N := 35) rfl ?_); refine ag_fix (.pointer (some ⟨gb1, 2, none⟩)) (ex_field 29 2 (.pointer (some ⟨gb1, 0, none⟩)) (.pointer (some ⟨gb1, 2, none⟩)) (fa29_2_0 gb1) _ rfl rfl) rfl ?_)
         | ((with_reducible refine gate_d (N := 36) rfl ?_); refine ag_fix (.int .i64 a0_2) (ex_get sT3 gb1 (2) (.int .i64 a0_2) (#[.int .i64 a0_0, .int .i64 a0_1, .int .i64 a0_2, .bool false]) BKb1.out rfl _ rfl rfl) rfl ?_))
        (try simp only [Act.put, sI, sZ, sS])
        go_ret
        exact ⟨by first | rfl | (simp; done) | (simp [*]; done), HL.out⟩
      ·
       rw [if_neg c11] at H
       have c11b0 : (a0_1 == 0) = false := beq_eq_false_iff_ne.mpr c11
       have c11b1 : (a0_1 != 0) = true := bne_iff_ne.mpr c11
       have hc11 := hid c11
       clear c11
       obtain rfl := Option.some.inj H
       clear H
       go_enter Try.func29, Try.ntmps29
       go_wp2_with (first
        | ((with_reducible refine gate_d (N := 1) rfl ?_); obtain ⟨gb1, hgb1⟩ : ∃ g_, w.heap.size = g_ := ⟨_, rfl⟩; refine ag_box #[.int .i64 a0_0, .int .i64 a0_1, .int .i64 a0_2, .bool a0_3] gb1 hgb1 rfl _ rfl rfl ?_; intro w15 hb_ hB_ hs_; have GEb1 : Hid (w.heap.size ≤ gb1) := hid (by have := HL.out.size; omega); replace HL := hid (HL.out.trans (hb_.mono GEb1.out)); have BKb1 := hid hB_; clear hb_ hB_ hs_ hgb1)
        | ((with_reducible refine gate_d (N := 4) rfl ?_); refine ag_fix (.pointer (some ⟨gb1, 0, none⟩)) (ex_field 29 0 (.pointer (some ⟨gb1, 0, none⟩)) (.pointer (some ⟨gb1, 0, none⟩)) (fa29_0_0 gb1) _ rfl rfl) rfl ?_)
        | ((with_reducible refine gate_d (N := 5) rfl ?_); refine ag_fix (.int .i64 a0_0) (ex_get sT3 gb1 (0) (.int .i64 a0_0) (#[.int .i64 a0_0, .int .i64 a0_1, .int .i64 a0_2, .bool a0_3]) BKb1.out rfl _ rfl rfl) rfl ?_)
        | ((with_reducible refine gate_d (N := 8) rfl ?_); refine ag_fix (.pointer (some ⟨gb1, 0, none⟩)) (ex_field 29 0 (.pointer (some ⟨gb1, 0, none⟩)) (.pointer (some ⟨gb1, 0, none⟩)) (fa29_0_0 gb1) _ rfl rfl) rfl ?_)
        | ((with_reducible refine gate_d (N := 9) rfl ?_); refine ag_fix (.int .i64 a0_0) (ex_get sT3 gb1 (0) (.int .i64 a0_0) (#[.int .i64 a0_0, .int .i64 a0_1, .int .i64 a0_2, .bool a0_3]) BKb1.out rfl _ rfl rfl) rfl ?_)
        | ((with_reducible refine gate_d (N := 13) rfl ?_); refine ag_fix (.pointer (some ⟨gb1, 2, none⟩)) (ex_field 29 2 (.pointer (some ⟨gb1, 0, none⟩)) (.pointer (some ⟨gb1, 2, none⟩)) (fa29_2_0 gb1) _ rfl rfl) rfl ?_)
        | ((with_reducible refine gate_d (N := 14) rfl ?_); refine ag_fix (.int .i64 a0_2) (ex_get sT3 gb1 (2) (.int .i64 a0_2) (#[.int .i64 a0_0, .int .i64 a0_1, .int .i64 a0_2, .bool a0_3]) BKb1.out rfl _ rfl rfl) rfl ?_)
        | ((with_reducible refine gate_d (N := 18) rfl ?_); refine ag_fix (.pointer (some ⟨gb1, 2, none⟩)) (ex_field 29 2 (.pointer (some ⟨gb1, 0, none⟩)) (.pointer (some ⟨gb1, 2, none⟩)) (fa29_2_0 gb1) _ rfl rfl) rfl ?_)
        | ((with_reducible refine gate_d (N := 19) rfl ?_); refine ag_fix (.int .i64 a0_2) (ex_get sT3 gb1 (2) (.int .i64 a0_2) (#[.int .i64 a0_0, .int .i64 a0_1, .int .i64 a0_2, .bool a0_3]) BKb1.out rfl _ rfl rfl) rfl ?_)
        | ((with_reducible refine gate_d (N := 23) rfl ?_); refine ag_fix (.pointer (some ⟨gb1, 0, none⟩)) (ex_field 29 0 (.pointer (some ⟨gb1, 0, none⟩)) (.pointer (some ⟨gb1, 0, none⟩)) (fa29_0_0 gb1) _ rfl rfl) rfl ?_)
        | ((with_reducible refine gate_d (N := 24) rfl ?_); refine ag_fix (.int .i64 a0_0) (ex_get sT3 gb1 (0) (.int .i64 a0_0) (#[.int .i64 a0_0, .int .i64 a0_1, .int .i64 a0_2, .bool a0_3]) BKb1.out rfl _ rfl rfl) rfl ?_)
        | ((with_reducible refine gate_d (N := 26) rfl ?_); refine ag_fix (.pointer (some ⟨gb1, 1, none⟩)) (ex_field 29 1 (.pointer (some ⟨gb1, 0, none⟩)) (.pointer (some ⟨gb1, 1, none⟩)) (fa29_1_0 gb1) _ rfl rfl) rfl ?_)
        | ((with_reducible refine gate_d (N := 27) rfl ?_); refine ag_fix (.int .i64 a0_1) (ex_get sT3 gb1 (1) (.int .i64 a0_1) (#[.int .i64 a0_0, .int .i64 a0_1, .int .i64 a0_2, .bool a0_3]) BKb1.out rfl _ rfl rfl) rfl ?_))
       (try simp only [Act.put, sI, sZ, sS])
       go_ret
       exact ⟨by first | rfl | (simp; done) | (simp [*]; done), HL.out⟩
     ·
      rw [if_neg c10] at H
      have c10b0 : (a0_0 == 8) = false := beq_eq_false_iff_ne.mpr c10
      have c10b1 : (a0_0 != 8) = true := bne_iff_ne.mpr c10
      have hc10 := hid c10
      clear c10
      by_cases c16 : a0_1 < 1
      ·
       rw [if_pos c16] at H
       have c16b0 : decide (a0_1 < 1) = true := decide_eq_true c16
       have hc16 := hid c16
       clear c16
       obtain rfl := Option.some.inj H
       clear H
       go_enter Try.func29, Try.ntmps29
       go_wp2_with (first
        | ((with_reducible refine gate_d (N := 1) rfl ?_); obtain ⟨gb1, hgb1⟩ : ∃ g_, w.heap.size = g_ := ⟨_, rfl⟩; refine ag_box #[.int .i64 a0_0, .int .i64 a0_1, .int .i64 a0_2, .bool a0_3] gb1 hgb1 rfl _ rfl rfl ?_; intro w17 hb_ hB_ hs_; have GEb1 : Hid (w.heap.size ≤ gb1) := hid (by have := HL.out.size; omega); replace HL := hid (HL.out.trans (hb_.mono GEb1.out)); have BKb1 := hid hB_; clear hb_ hB_ hs_ hgb1)
        | ((with_reducible refine gate_d (N := 4) rfl ?_); refine ag_fix (.pointer (some ⟨gb1, 0, none⟩)) (ex_field 29 0 (.pointer (some ⟨gb1, 0, none⟩)) (.pointer (some ⟨gb1, 0, none⟩)) (fa29_0_0 gb1) _ rfl rfl) rfl ?_)
        | ((with_reducible refine gate_d (N := 5) rfl ?_); refine ag_fix (.int .i64 a0_0) (ex_get sT3 gb1 (0) (.int .i64 a0_0) (#[.int .i64 a0_0, .int .i64 a0_1, .int .i64 a0_2, .bool a0_3]) BKb1.out rfl _ rfl rfl) rfl ?_)
        | ((with_reducible refine gate_d (N := 8) rfl ?_); refine ag_fix (.pointer (some ⟨gb1, 0, none⟩)) (ex_field 29 0 (.pointer (some ⟨gb1, 0, none⟩)) (.pointer (some ⟨gb1, 0, none⟩)) (fa29_0_0 gb1) _ rfl rfl) rfl ?_)
        | ((with_reducible refine gate_d (N := 9) rfl ?_); refine ag_fix (.int .i64 a0_0) (ex_get sT3 gb1 (0) (.int .i64 a0_0) (#[.int .i64 a0_0, .int .i64 a0_1, .int .i64 a0_2, .bool a0_3]) BKb1.out rfl _ rfl rfl) rfl ?_)
        | ((with_reducible refine gate_d (N := 13) rfl ?_); refine ag_fix (.pointer (some ⟨gb1, 2, none⟩)) (ex_field 29 2 (.pointer (some ⟨gb1, 0, none⟩)) (.pointer (some ⟨gb1, 2, none⟩)) (fa29_2_0 gb1) _ rfl rfl) rfl ?_)
        | ((with_reducible refine gate_d (N := 14) rfl ?_); refine ag_fix (.int .i64 a0_2) (ex_get sT3 gb1 (2) (.int .i64 a0_2) (#[.int .i64 a0_0, .int .i64 a0_1, .int .i64 a0_2, .bool a0_3]) BKb1.out rfl _ rfl rfl) rfl ?_)
        | ((with_reducible refine gate_d (N := 18) rfl ?_); refine ag_fix (.pointer (some ⟨gb1, 2, none⟩)) (ex_field 29 2 (.pointer (some ⟨gb1, 0, none⟩)) (.pointer (some ⟨gb1, 2, none⟩)) (fa29_2_0 gb1) _ rfl rfl) rfl ?_)
        | ((with_reducible refine gate_d (N := 19) rfl ?_); refine ag_fix (.int .i64 a0_2) (ex_get sT3 gb1 (2) (.int .i64 a0_2) (#[.int .i64 a0_0, .int .i64 a0_1, .int .i64 a0_2, .bool a0_3]) BKb1.out rfl _ rfl rfl) rfl ?_)
        | ((with_reducible refine gate_d (N := 23) rfl ?_); refine ag_fix (.pointer (some ⟨gb1, 0, none⟩)) (ex_field 29 0 (.pointer (some ⟨gb1, 0, none⟩)) (.pointer (some ⟨gb1, 0, none⟩)) (fa29_0_0 gb1) _ rfl rfl) rfl ?_)
        | ((with_reducible refine gate_d (N := 24) rfl ?_); refine ag_fix (.int .i64 a0_0) (ex_get sT3 gb1 (0) (.int .i64 a0_0) (#[.int .i64 a0_0, .int .i64 a0_1, .int .i64 a0_2, .bool a0_3]) BKb1.out rfl _ rfl rfl) rfl ?_)
        | ((with_reducible refine gate_d (N := 40) rfl ?_); refine ag_fix (.pointer (some ⟨gb1, 1, none⟩)) (ex_field 29 1 (.pointer (some ⟨gb1, 0, none⟩)) (.pointer (some ⟨gb1, 1, none⟩)) (fa29_1_0 gb1) _ rfl rfl) rfl ?_)
        | ((with_reducible refine gate_d (N := 41) rfl ?_); refine ag_fix (.int .i64 a0_1) (ex_get sT3 gb1 (1) (.int .i64 a0_1) (#[.int .i64 a0_0, .int .i64 a0_1, .int .i64 a0_2, .bool a0_3]) BKb1.out rfl _ rfl rfl) rfl ?_))
       (try simp only [Act.put, sI, sZ, sS])
       go_ret
       exact ⟨by first | rfl | (simp; done) | (simp [*]; done), HL.out⟩
      ·
       rw [if_neg c16] at H
       have c16b0 : decide (a0_1 < 1) = false := decide_eq_false c16
       have hc16 := hid c16
       clear c16
       by_cases c18 : a0_1 > 2
       ·
        rw [if_pos c18] at H
        have c18b0 : decide (2 < a0_1) = true := decide_eq_true c18
        have hc18 := hid c18
        clear c18
        obtain rfl := Option.some.inj H
        clear H
        go_enter Try.func29, Try.ntmps29
        go_wp2_with (first
         | ((with_reducible refine gate_d (N := 1) rfl ?_); obtain ⟨gb1, hgb1⟩ : ∃ g_, w.heap.size = g_ := ⟨_, rfl⟩; refine ag_box #[.int .i64 a0_0, .int .i64 a0_1, .int .i64 a0_2, .bool a0_3] gb1 hgb1 rfl _ rfl rfl ?_; intro w19 hb_ hB_ hs_; have GEb1 : Hid (w.heap.size ≤ gb1) := hid (by have := HL.out.size; omega); replace HL := hid (HL.out.trans (hb_.mono GEb1.out)); have BKb1 := hid hB_; clear hb_ hB_ hs_ hgb1)
         | ((with_reducible refine gate_d (N := 4) rfl ?_); refine ag_fix (.pointer (some ⟨gb1, 0, none⟩)) (ex_field 29 0 (.pointer (some ⟨gb1, 0, none⟩)) (.pointer (some ⟨gb1, 0, none⟩)) (fa29_0_0 gb1) _ rfl rfl) rfl ?_)
         | ((with_reducible refine gate_d (N := 5) rfl ?_); refine ag_fix (.int .i64 a0_0) (ex_get sT3 gb1 (0) (.int .i64 a0_0) (#[.int .i64 a0_0, .int .i64 a0_1, .int .i64 a0_2, .bool a0_3]) BKb1.out rfl _ rfl rfl) rfl ?_)
         | ((with_reducible refine gate_d (N := 8) rfl ?_); refine ag_fix (.pointer (some ⟨gb1, 0, none⟩)) (ex_field 29 0 (.pointer (some ⟨gb1, 0, none⟩)) (.pointer (some ⟨gb1, 0, none⟩)) (fa29_0_0 gb1) _ rfl rfl) rfl ?_)
         | ((with_reducible refine gate_d (N := 9) rfl ?_); refine ag_fix (.int .i64 a0_0) (ex_get sT3 gb1 (0) (.int .i64 a0_0) (#[.int .i64 a0_0, .int .i64 a0_1, .int .i64 a0_2, .bool a0_3]) BKb1.out rfl _ rfl rfl) rfl ?_)
         | ((with_reducible refine gate_d (N := 13) rfl ?_); refine ag_fix (.pointer (some ⟨gb1, 2, none⟩)) (ex_field 29 2 (.pointer (some ⟨gb1, 0, none⟩)) (.pointer (some ⟨gb1, 2, none⟩)) (fa29_2_0 gb1) _ rfl rfl) rfl ?_)
         | ((with_reducible refine gate_d (N := 14) rfl ?_); refine ag_fix (.int .i64 a0_2) (ex_get sT3 gb1 (2) (.int .i64 a0_2) (#[.int .i64 a0_0, .int .i64 a0_1, .int .i64 a0_2, .bool a0_3]) BKb1.out rfl _ rfl rfl) rfl ?_)
         | ((with_reducible refine gate_d (N := 18) rfl ?_); refine ag_fix (.pointer (some ⟨gb1, 2, none⟩)) (ex_field 29 2 (.pointer (some ⟨gb1, 0, none⟩)) (.pointer (some ⟨gb1, 2, none⟩)) (fa29_2_0 gb1) _ rfl rfl) rfl ?_)
         | ((with_reducible refine gate_d (N := 19) rfl ?_); refine ag_fix (.int .i64 a0_2) (ex_get sT3 gb1 (2) (.int .i64 a0_2) (#[.int .i64 a0_0, .int .i64 a0_1, .int .i64 a0_2, .bool a0_3]) BKb1.out rfl _ rfl rfl) rfl ?_)
         | ((with_reducible refine gate_d (N := 23) rfl ?_); refine ag_fix (.pointer (some ⟨gb1, 0, none⟩)) (ex_field 29 0 (.pointer (some ⟨gb1, 0, none⟩)) (.pointer (some ⟨gb1, 0, none⟩)) (fa29_0_0 gb1) _ rfl rfl) rfl ?_)
         | ((with_reducible refine gate_d (N := 24) rfl ?_); refine ag_fix (.int .i64 a0_0) (ex_get sT3 gb1 (0) (.int .i64 a0_0) (#[.int .i64 a0_0, .int .i64 a0_1, .int .i64 a0_2, .bool a0_3]) BKb1.out rfl _ rfl rfl) rfl ?_)
         | ((with_reducible refine gate_d (N := 40) rfl ?_); refine ag_fix (.pointer (some ⟨gb1, 1, none⟩)) (ex_field 29 1 (.pointer (some ⟨gb1, 0, none⟩)) (.pointer (some ⟨gb1, 1, none⟩)) (fa29_1_0 gb1) _ rfl rfl) rfl ?_)
         | ((with_reducible refine gate_d (N := 41) rfl ?_); refine ag_fix (.int .i64 a0_1) (ex_get sT3 gb1 (1) (.int .i64 a0_1) (#[.int .i64 a0_0, .int .i64 a0_1, .int .i64 a0_2, .bool a0_3]) BKb1.out rfl _ rfl rfl) rfl ?_)
         | ((with_reducible refine gate_d (N := 44) rfl ?_); refine ag_fix (.pointer (some ⟨gb1, 1, none⟩)) (ex_field 29 1 (.pointer (some ⟨gb1, 0, none⟩)) (.pointer (some ⟨gb1, 1, none⟩)) (fa29_1_0 gb1) _ rfl rfl) rfl ?_)
         | ((with_reducible refine gate_d (N := 45) rfl ?_); refine ag_fix (.int .i64 a0_1) (ex_get sT3 gb1 (1) (.int .i64 a0_1) (#[.int .i64 a0_0, .int .i64 a0_1, .int .i64 a0_2, .bool a0_3]) BKb1.out rfl _ rfl rfl) rfl ?_))
        (try simp only [Act.put, sI, sZ, sS])
        go_ret
        exact ⟨by first | rfl | (simp; done) | (simp [*]; done), HL.out⟩
       ·
        rw [if_neg c18] at H
        have c18b0 : decide (2 < a0_1) = false := decide_eq_false c18
        have hc18 := hid c18
        clear c18
        by_cases c20 : a0_0 = 5
        ·
         rw [if_pos c20] at H
         have c20b0 : (a0_0 == 5) = true := beq_iff_eq.mpr c20
         have c20b1 : (a0_0 != 5) = false := bne_eq_false_iff_eq.mpr c20
         have hc20 := hid c20
         clear c20
         by_cases c21 : a0_2 > 0
         ·
          rw [if_pos c21] at H
          have c21b0 : decide (0 < a0_2) = true := decide_eq_true c21
          have hc21 := hid c21
          clear c21
          obtain rfl := Option.some.inj H
          clear H
          go_enter Try.func29, Try.ntmps29
          go_wp2_with (first
           | ((with_reducible refine gate_d (N := 1) rfl ?_); obtain ⟨gb1, hgb1⟩ : ∃ g_, w.heap.size = g_ := ⟨_, rfl⟩; refine ag_box #[.int .i64 a0_0, .int .i64 a0_1, .int .i64 a0_2, .bool a0_3] gb1 hgb1 rfl _ rfl rfl ?_; intro w22 hb_ hB_ hs_; have GEb1 : Hid (w.heap.size ≤ gb1) := hid (by have := HL.out.size; omega); replace HL := hid (HL.out.trans (hb_.mono GEb1.out)); have BKb1 := hid hB_; clear hb_ hB_ hs_ hgb1)
           | ((with_reducible refine gate_d (N := 4) rfl ?_); refine ag_fix (.pointer (some ⟨gb1, 0, none⟩)) (ex_field 29 0 (.pointer (some ⟨gb1, 0, none⟩)) (.pointer (some ⟨gb1, 0, none⟩)) (fa29_0_0 gb1) _ rfl rfl) rfl ?_)
           | ((with_reducible refine gate_d (N := 5) rfl ?_); refine ag_fix (.int .i64 a0_0) (ex_get sT3 gb1 (0) (.int .i64 a0_0) (#[.int .i64 a0_0, .int .i64 a0_1, .int .i64 a0_2, .bool a0_3]) BKb1.out rfl _ rfl rfl) rfl ?_)
           | ((with_reducible refine gate_d (N := 8) rfl ?_); refine ag_fix (.pointer (some ⟨gb1, 0, none⟩)) (ex_field 29 0 (.pointer (some ⟨gb1, 0, none⟩)) (.pointer (some ⟨gb1, 0, none⟩)) (fa29_0_0 gb1) _ rfl rfl) rfl ?_)
           | ((with_reducible refine gate_d (N := 9) rfl ?_); refine ag_fix (.int .i64 a0_0) (ex_get sT3 gb1 (0) (.int .i64 a0_0) (#[.int .i64 a0_0, .int .i64 a0_1, .int .i64 a0_2, .bool a0_3]) BKb1.out rfl _ rfl rfl) rfl ?_)
           | ((with_reducible refine gate_d (N := 13) rfl ?_); refine ag_fix (.pointer (some ⟨gb1, 2, none⟩)) (ex_field 29 2 (.pointer (some ⟨gb1, 0, none⟩)) (.pointer (some ⟨gb1, 2, none⟩)) (fa29_2_0 gb1) _ rfl rfl) rfl ?_)
           | ((with_reducible refine gate_d (N := 14) rfl ?_); refine ag_fix (.int .i64 a0_2) (ex_get sT3 gb1 (2) (.int .i64 a0_2) (#[.int .i64 a0_0, .int .i64 a0_1, .int .i64 a0_2, .bool a0_3]) BKb1.out rfl _ rfl rfl) rfl ?_)
           | ((with_reducible refine gate_d (N := 18) rfl ?_); refine ag_fix (.pointer (some ⟨gb1, 2, none⟩)) (ex_field 29 2 (.pointer (some ⟨gb1, 0, none⟩)) (.pointer (some ⟨gb1, 2, none⟩)) (fa29_2_0 gb1) _ rfl rfl) rfl ?_)
           | ((with_reducible refine gate_d (N := 19) rfl ?_); refine ag_fix (.int .i64 a0_2) (ex_get sT3 gb1 (2) (.int .i64 a0_2) (#[.int .i64 a0_0, .int .i64 a0_1, .int .i64 a0_2, .bool a0_3]) BKb1.out rfl _ rfl rfl) rfl ?_)
           | ((with_reducible refine gate_d (N := 23) rfl ?_); refine ag_fix (.pointer (some ⟨gb1, 0, none⟩)) (ex_field 29 0 (.pointer (some ⟨gb1, 0, none⟩)) (.pointer (some ⟨gb1, 0, none⟩)) (fa29_0_0 gb1) _ rfl rfl) rfl ?_)
           | ((with_reducible refine gate_d (N := 24) rfl ?_); refine ag_fix (.int .i64 a0_0) (ex_get sT3 gb1 (0) (.int .i64 a0_0) (#[.int .i64 a0_0, .int .i64 a0_1, .int .i64 a0_2, .bool a0_3]) BKb1.out rfl _ rfl rfl) rfl ?_)
           | ((with_reducible refine gate_d (N := 40) rfl ?_); refine ag_fix (.pointer (some ⟨gb1, 1, none⟩)) (ex_field 29 1 (.pointer (some ⟨gb1, 0, none⟩)) (.pointer (some ⟨gb1, 1, none⟩)) (fa29_1_0 gb1) _ rfl rfl) rfl ?_)
           | ((with_reducible refine gate_d (N := 41) rfl ?_); refine ag_fix (.int .i64 a0_1) (ex_get sT3 gb1 (1) (.int .i64 a0_1) (#[.int .i64 a0_0, .int .i64 a0_1, .int .i64 a0_2, .bool a0_3]) BKb1.out rfl _ rfl rfl) rfl ?_)
           | ((with_reducible refine gate_d (N := 44) rfl ?_); refine ag_fix (.pointer (some ⟨gb1, 1, none⟩)) (ex_field 29 1 (.pointer (some ⟨gb1, 0, none⟩)) (.pointer (some ⟨gb1, 1, none⟩)) (fa29_1_0 gb1) _ rfl rfl) rfl ?_)
           | ((with_reducible refine gate_d (N := 45) rfl ?_); refine ag_fix (.int .i64 a0_1) (ex_get sT3 gb1 (1) (.int .i64 a0_1) (#[.int .i64 a0_0, .int .i64 a0_1, .int .i64 a0_2, .bool a0_3]) BKb1.out rfl _ rfl rfl) rfl ?_)
           | ((with_reducible refine gate_d (N := 49) rfl ?_); refine ag_fix (.pointer (some ⟨gb1, 0, none⟩)) (ex_field 29 0 (.pointer (some ⟨gb1, 0, none⟩)) (.pointer (some ⟨gb1, 0, none⟩)) (fa29_0_0 gb1) _ rfl rfl) rfl ?_)
           | ((with_reducible refine gate_d (N := 50) rfl ?_); refine ag_fix (.int .i64 a0_0) (ex_get sT3 gb1 (0) (.int .i64 a0_0) (#[.int .i64 a0_0, .int .i64 a0_1, .int .i64 a0_2, .bool a0_3]) BKb1.out rfl _ rfl rfl) rfl ?_)
           | ((with_reducible refine gate_d (N := 52) rfl ?_); refine ag_fix (.pointer (some ⟨gb1, 2, none⟩)) (ex_field 29 2 (.pointer (some ⟨gb1, 0, none⟩)) (.pointer (some ⟨gb1, 2, none⟩)) (fa29_2_0 gb1) _ rfl rfl) rfl ?_)
           | ((with_reducible refine gate_d (N := 53) rfl ?_); refine ag_fix (.int .i64 a0_2) (ex_get sT3 gb1 (2) (.int .i64 a0_2) (#[.int .i64 a0_0, .int .i64 a0_1, .int .i64 a0_2, .bool a0_3]) BKb1.out rfl _ rfl rfl) rfl ?_))
          (try simp only [Act.put, sI, sZ, sS])
          go_ret
          exact ⟨by first | rfl | (simp; done) | (simp [*]; done), HL.out⟩
         ·
          rw [if_neg c21] at H
          have c21b0 : decide (0 < a0_2) = false := decide_eq_false c21
          have hc21 := hid c21
          clear c21
          obtain rfl := Option.some.inj H
          clear H
          go_enter Try.func29, Try.ntmps29
          go_wp2_with (first
           | ((with_reducible refine gate_d (N := 1) rfl ?_); obtain ⟨gb1, hgb1⟩ : ∃ g_, w.heap.size = g_ := ⟨_, rfl⟩; refine ag_box #[.int .i64 a0_0, .int .i64 a0_1, .int .i64 a0_2, .bool a0_3] gb1 hgb1 rfl _ rfl rfl ?_; intro w23 hb_ hB_ hs_; have GEb1 : Hid (w.heap.size ≤ gb1) := hid (by have := HL.out.size; omega); replace HL := hid (HL.out.trans (hb_.mono GEb1.out)); have BKb1 := hid hB_; clear hb_ hB_ hs_ hgb1)
           | ((with_reducible refine gate_d (N := 4) rfl ?_); refine ag_fix (.pointer (some ⟨gb1, 0, none⟩)) (ex_field 29 0 (.pointer (some ⟨gb1, 0, none⟩)) (.pointer (some ⟨gb1, 0, none⟩)) (fa29_0_0 gb1) _ rfl rfl) rfl ?_)
           | ((with_reducible refine gate_d (N := 5) rfl ?_); refine ag_fix (.int .i64 a0_0) (ex_get sT3 gb1 (0) (.int .i64 a0_0) (#[.int .i64 a0_0, .int .i64 a0_1, .int .i64 a0_2, .bool a0_3]) BKb1.out rfl _ rfl rfl) rfl ?_)
           | ((with_reducible refine gate_d (N := 8) rfl ?_); refine ag_fix (.pointer (some ⟨gb1, 0, none⟩)) (ex_field 29 0 (.pointer (some ⟨gb1, 0, none⟩)) (.pointer (some ⟨gb1, 0, none⟩)) (fa29_0_0 gb1) _ rfl rfl) rfl ?_)
           | ((with_reducible refine gate_d (N := 9) rfl ?_); refine ag_fix (.int .i64 a0_0) (ex_get sT3 gb1 (0) (.int .i64 a0_0) (#[.int .i64 a0_0, .int .i64 a0_1, .int .i64 a0_2, .bool a0_3]) BKb1.out rfl _ rfl rfl) rfl ?_)
           | ((with_reducible refine gate_d (N := 13) rfl ?_); refine ag_fix (.pointer (some ⟨gb1, 2, none⟩)) (ex_field 29 2 (.pointer (some ⟨gb1, 0, none⟩)) (.pointer (some ⟨gb1, 2, none⟩)) (fa29_2_0 gb1) _ rfl rfl) rfl ?_)
           | ((with_reducible refine gate_d (N := 14) rfl ?_); refine ag_fix (.int .i64 a0_2) (ex_get sT3 gb1 (2) (.int .i64 a0_2) (#[.int .i64 a0_0, .int .i64 a0_1, .int .i64 a0_2, .bool a0_3]) BKb1.out rfl _ rfl rfl) rfl ?_)
           | ((with_reducible refine gate_d (N := 18) rfl ?_); refine ag_fix (.pointer (some ⟨gb1, 2, none⟩)) (ex_field 29 2 (.pointer (some ⟨gb1, 0, none⟩)) (.pointer (some ⟨gb1, 2, none⟩)) (fa29_2_0 gb1) _ rfl rfl) rfl ?_)
           | ((with_reducible refine gate_d (N := 19) rfl ?_); refine ag_fix (.int .i64 a0_2) (ex_get sT3 gb1 (2) (.int .i64 a0_2) (#[.int .i64 a0_0, .int .i64 a0_1, .int .i64 a0_2, .bool a0_3]) BKb1.out rfl _ rfl rfl) rfl ?_)
           | ((with_reducible refine gate_d (N := 23) rfl ?_); refine ag_fix (.pointer (some ⟨gb1, 0, none⟩)) (ex_field 29 0 (.pointer (some ⟨gb1, 0, none⟩)) (.pointer (some ⟨gb1, 0, none⟩)) (fa29_0_0 gb1) _ rfl rfl) rfl ?_)
           | ((with_reducible refine gate_d (N := 24) rfl ?_); refine ag_fix (.int .i64 a0_0) (ex_get sT3 gb1 (0) (.int .i64 a0_0) (#[.int .i64 a0_0, .int .i64 a0_1, .int .i64 a0_2, .bool a0_3]) BKb1.out rfl _ rfl rfl) rfl ?_)
           | ((with_reducible refine gate_d (N := 40) rfl ?_); refine ag_fix (.pointer (some ⟨gb1, 1, none⟩)) (ex_field 29 1 (.pointer (some ⟨gb1, 0, none⟩)) (.pointer (some ⟨gb1, 1, none⟩)) (fa29_1_0 gb1) _ rfl rfl) rfl ?_)
           | ((with_reducible refine gate_d (N := 41) rfl ?_); refine ag_fix (.int .i64 a0_1) (ex_get sT3 gb1 (1) (.int .i64 a0_1) (#[.int .i64 a0_0, .int .i64 a0_1, .int .i64 a0_2, .bool a0_3]) BKb1.out rfl _ rfl rfl) rfl ?_)
           | ((with_reducible refine gate_d (N := 44) rfl ?_); refine ag_fix (.pointer (some ⟨gb1, 1, none⟩)) (ex_field 29 1 (.pointer (some ⟨gb1, 0, none⟩)) (.pointer (some ⟨gb1, 1, none⟩)) (fa29_1_0 gb1) _ rfl rfl) rfl ?_)
           | ((with_reducible refine gate_d (N := 45) rfl ?_); refine ag_fix (.int .i64 a0_1) (ex_get sT3 gb1 (1) (.int .i64 a0_1) (#[.int .i64 a0_0, .int .i64 a0_1, .int .i64 a0_2, .bool a0_3]) BKb1.out rfl _ rfl rfl) rfl ?_)
           | ((with_reducible refine gate_d (N := 49) rfl ?_); refine ag_fix (.pointer (some ⟨gb1, 0, none⟩)) (ex_field 29 0 (.pointer (some ⟨gb1, 0, none⟩)) (.pointer (some ⟨gb1, 0, none⟩)) (fa29_0_0 gb1) _ rfl rfl) rfl ?_)
           | ((with_reducible refine gate_d (N := 50) rfl ?_); refine ag_fix (.int .i64 a0_0) (ex_get sT3 gb1 (0) (.int .i64 a0_0) (#[.int .i64 a0_0, .int .i64 a0_1, .int .i64 a0_2, .bool a0_3]) BKb1.out rfl _ rfl rfl) rfl ?_)
           | ((with_reducible refine gate_d (N := 52) rfl ?_); refine ag_fix (.pointer (some ⟨gb1, 2, none⟩)) (ex_field 29 2 (.pointer (some ⟨gb1, 0, none⟩)) (.pointer (some ⟨gb1, 2, none⟩)) (fa29_2_0 gb1) _ rfl rfl) rfl ?_)
           | ((with_reducible refine gate_d (N := 53) rfl ?_); refine ag_fix (.int .i64 a0_2) (ex_get sT3 gb1 (2) (.int .i64 a0_2) (#[.int .i64 a0_0, .int .i64 a0_1, .int .i64 a0_2, .bool a0_3]) BKb1.out rfl _ rfl rfl) rfl ?_)
           | ((with_reducible refine gate_d (N := 56) rfl ?_); refine ag_fix (.pointer (some ⟨gb1, 3, none⟩)) (ex_field 29 3 (.pointer (some ⟨gb1, 0, none⟩)) (.pointer (some ⟨gb1, 3, none⟩)) (fa29_3_0 gb1) _ rfl rfl) rfl ?_)
           | ((with_reducible refine gate_d (N := 57) rfl ?_); refine ag_fix (.bool a0_3) (ex_get sT4 gb1 (3) (.bool a0_3) (#[.int .i64 a0_0, .int .i64 a0_1, .int .i64 a0_2, .bool a0_3]) BKb1.out rfl _ rfl rfl) rfl ?_))
          (try simp only [Act.put, sI, sZ, sS])
          go_ret
          exact ⟨by first | rfl | (simp; done) | (simp [*]; done), HL.out⟩
        ·
         rw [if_neg c20] at H
         have c20b0 : (a0_0 == 5) = false := beq_eq_false_iff_ne.mpr c20
         have c20b1 : (a0_0 != 5) = true := bne_iff_ne.mpr c20
         have hc20 := hid c20
         clear c20
         by_cases c24 : a0_2 > 0
         ·
          rw [if_pos c24] at H
          have c24b0 : decide (0 < a0_2) = true := decide_eq_true c24
          have hc24 := hid c24
          clear c24
          obtain rfl := Option.some.inj H
          clear H
          go_enter Try.func29, Try.ntmps29
          go_wp2_with (first
           | ((with_reducible refine gate_d (N := 1) rfl ?_); obtain ⟨gb1, hgb1⟩ : ∃ g_, w.heap.size = g_ := ⟨_, rfl⟩; refine ag_box #[.int .i64 a0_0, .int .i64 a0_1, .int .i64 a0_2, .bool a0_3] gb1 hgb1 rfl _ rfl rfl ?_; intro w25 hb_ hB_ hs_; have GEb1 : Hid (w.heap.size ≤ gb1) := hid (by have := HL.out.size; omega); replace HL := hid (HL.out.trans (hb_.mono GEb1.out)); have BKb1 := hid hB_; clear hb_ hB_ hs_ hgb1)
           | ((with_reducible refine gate_d (N := 4) rfl ?_); refine ag_fix (.pointer (some ⟨gb1, 0, none⟩)) (ex_field 29 0 (.pointer (some ⟨gb1, 0, none⟩)) (.pointer (some ⟨gb1, 0, none⟩)) (fa29_0_0 gb1) _ rfl rfl) rfl ?_)
           | ((with_reducible refine gate_d (N := 5) rfl ?_); refine ag_fix (.int .i64 a0_0) (ex_get sT3 gb1 (0) (.int .i64 a0_0) (#[.int .i64 a0_0, .int .i64 a0_1, .int .i64 a0_2, .bool a0_3]) BKb1.out rfl _ rfl rfl) rfl ?_)
           | ((with_reducible refine gate_d (N := 8) rfl ?_); refine ag_fix (.pointer (some ⟨gb1, 0, none⟩)) (ex_field 29 0 (.pointer (some ⟨gb1, 0, none⟩)) (.pointer (some ⟨gb1, 0, none⟩)) (fa29_0_0 gb1) _ rfl rfl) rfl ?_)
           | ((with_reducible refine gate_d (N := 9) rfl ?_); refine ag_fix (.int .i64 a0_0) (ex_get sT3 gb1 (0) (.int .i64 a0_0) (#[.int .i64 a0_0, .int .i64 a0_1, .int .i64 a0_2, .bool a0_3]) BKb1.out rfl _ rfl rfl) rfl ?_)
           | ((with_reducible refine gate_d (N := 13) rfl ?_); refine ag_fix (.pointer (some ⟨gb1, 2, none⟩)) (ex_field 29 2 (.pointer (some ⟨gb1, 0, none⟩)) (.pointer (some ⟨gb1, 2, none⟩)) (fa29_2_0 gb1) _ rfl rfl) rfl ?_)
           | ((with_reducible refine gate_d (N := 14) rfl ?_); refine ag_fix (.int .i64 a0_2) (ex_get sT3 gb1 (2) (.int .i64 a0_2) (#[.int .i64 a0_0, .int .i64 a0_1, .int .i64 a0_2, .bool a0_3]) BKb1.out rfl _ rfl rfl) rfl ?_)
           | ((with_reducible refine gate_d (N := 18) rfl ?_); refine ag_fix (.pointer (some ⟨gb1, 2, none⟩)) (ex_field 29 2 (.pointer (some ⟨gb1, 0, none⟩)) (.pointer (some ⟨gb1, 2, none⟩)) (fa29_2_0 gb1) _ rfl rfl) rfl ?_)
           | ((with_reducible refine gate_d (N := 19) rfl ?_); refine ag_fix (.int .i64 a0_2) (ex_get sT3 gb1 (2) (.int .i64 a0_2) (#[.int .i64 a0_0, .int .i64 a0_1, .int .i64 a0_2, .bool a0_3]) BKb1.out rfl _ rfl rfl) rfl ?_)
           | ((with_reducible refine gate_d (N := 23) rfl ?_); refine ag_fix (.pointer (some ⟨gb1, 0, none⟩)) (ex_field 29 0 (.pointer (some ⟨gb1, 0, none⟩)) (.pointer (some ⟨gb1, 0, none⟩)) (fa29_0_0 gb1) _ rfl rfl) rfl ?_)
           | ((with_reducible refine gate_d (N := 24) rfl ?_); refine ag_fix (.int .i64 a0_0) (ex_get sT3 gb1 (0) (.int .i64 a0_0) (#[.int .i64 a0_0, .int .i64 a0_1, .int .i64 a0_2, .bool a0_3]) BKb1.out rfl _ rfl rfl) rfl ?_)
           | ((with_reducible refine gate_d (N := 40) rfl ?_); refine ag_fix (.pointer (some ⟨gb1, 1, none⟩)) (ex_field 29 1 (.pointer (some ⟨gb1, 0, none⟩)) (.pointer (some ⟨gb1, 1, none⟩)) (fa29_1_0 gb1) _ rfl rfl) rfl ?_)
           | ((with_reducible refine gate_d (N := 41) rfl ?_); refine ag_fix (.int .i64 a0_1) (ex_get sT3 gb1 (1) (.int .i64 a0_1) (#[.int .i64 a0_0, .int .i64 a0_1, .int .i64 a0_2, .bool a0_3]) BKb1.out rfl _ rfl rfl) rfl ?_)
           | ((with_reducible refine gate_d (N := 44) rfl ?_); refine ag_fix (.pointer (some ⟨gb1, 1, none⟩)) (ex_field 29 1 (.pointer (some ⟨gb1, 0, none⟩)) (.pointer (some ⟨gb1, 1, none⟩)) (fa29_1_0 gb1) _ rfl rfl) rfl ?_)
           | ((with_reducible refine gate_d (N := 45) rfl ?_); refine ag_fix (.int .i64 a0_1) (ex_get sT3 gb1 (1) (.int .i64 a0_1) (#[.int .i64 a0_0, .int .i64 a0_1, .int .i64 a0_2, .bool a0_3]) BKb1.out rfl _ rfl rfl) rfl ?_)
           | ((with_reducible refine gate_d (N := 49) rfl ?_); refine ag_fix (.pointer (some ⟨gb1, 0, none⟩)) (ex_field 29 0 (.pointer (some ⟨gb1, 0, none⟩)) (.pointer (some ⟨gb1, 0, none⟩)) (fa29_0_0 gb1) _ rfl rfl) rfl ?_)
           | ((with_reducible refine gate_d (N := 50) rfl ?_); refine ag_fix (.int .i64 a0_0) (ex_get sT3 gb1 (0) (.int .i64 a0_0) (#[.int .i64 a0_0, .int .i64 a0_1, .int .i64 a0_2, .bool a0_3]) BKb1.out rfl _ rfl rfl) rfl ?_)
           | ((with_reducible refine gate_d (N := 59) rfl ?_); refine ag_fix (.pointer (some ⟨gb1, 2, none⟩)) (ex_field 29 2 (.pointer (some ⟨gb1, 0, none⟩)) (.pointer (some ⟨gb1, 2, none⟩)) (fa29_2_0 gb1) _ rfl rfl) rfl ?_)
           | ((with_reducible refine gate_d (N := 60) rfl ?_); refine ag_fix (.int .i64 a0_2) (ex_get sT3 gb1 (2) (.int .i64 a0_2) (#[.int .i64 a0_0, .int .i64 a0_1, .int .i64 a0_2, .bool a0_3]) BKb1.out rfl _ rfl rfl) rfl ?_)
           | ((with_reducible refine gate_d (N := 63) rfl ?_); refine ag_fix (.pointer (some ⟨gb1, 3, none⟩)) (ex_field 29 3 (.pointer (some ⟨gb1, 0, none⟩)) (.pointer (some ⟨gb1, 3, none⟩)) (fa29_3_0 gb1) _ rfl rfl) rfl ?_)
           | ((with_reducible refine gate_d (N := 64) rfl ?_); refine ag_fix (.bool a0_3) (ex_get sT4 gb1 (3) (.bool a0_3) (#[.int .i64 a0_0, .int .i64 a0_1, .int .i64 a0_2, .bool a0_3]) BKb1.out rfl _ rfl rfl) rfl ?_))
          (try simp only [Act.put, sI, sZ, sS])
          go_ret
          exact ⟨by first | rfl | (simp; done) | (simp [*]; done), HL.out⟩
         ·
          rw [if_neg c24] at H
          have c24b0 : decide (0 < a0_2) = false := decide_eq_false c24
          have hc24 := hid c24
          clear c24
          obtain rfl := Option.some.inj H
          clear H
          go_enter Try.func29, Try.ntmps29
          go_wp2_with (first
           | ((with_reducible refine gate_d (N := 1) rfl ?_); obtain ⟨gb1, hgb1⟩ : ∃ g_, w.heap.size = g_ := ⟨_, rfl⟩; refine ag_box #[.int .i64 a0_0, .int .i64 a0_1, .int .i64 a0_2, .bool a0_3] gb1 hgb1 rfl _ rfl rfl ?_; intro w26 hb_ hB_ hs_; have GEb1 : Hid (w.heap.size ≤ gb1) := hid (by have := HL.out.size; omega); replace HL := hid (HL.out.trans (hb_.mono GEb1.out)); have BKb1 := hid hB_; clear hb_ hB_ hs_ hgb1)
           | ((with_reducible refine gate_d (N := 4) rfl ?_); refine ag_fix (.pointer (some ⟨gb1, 0, none⟩)) (ex_field 29 0 (.pointer (some ⟨gb1, 0, none⟩)) (.pointer (some ⟨gb1, 0, none⟩)) (fa29_0_0 gb1) _ rfl rfl) rfl ?_)
           | ((with_reducible refine gate_d (N := 5) rfl ?_); refine ag_fix (.int .i64 a0_0) (ex_get sT3 gb1 (0) (.int .i64 a0_0) (#[.int .i64 a0_0, .int .i64 a0_1, .int .i64 a0_2, .bool a0_3]) BKb1.out rfl _ rfl rfl) rfl ?_)
           | ((with_reducible refine gate_d (N := 8) rfl ?_); refine ag_fix (.pointer (some ⟨gb1, 0, none⟩)) (ex_field 29 0 (.pointer (some ⟨gb1, 0, none⟩)) (.pointer (some ⟨gb1, 0, none⟩)) (fa29_0_0 gb1) _ rfl rfl) rfl ?_)
           | ((with_reducible refine gate_d (N := 9) rfl ?_); refine ag_fix (.int .i64 a0_0) (ex_get sT3 gb1 (0) (.int .i64 a0_0) (#[.int .i64 a0_0, .int .i64 a0_1, .int .i64 a0_2, .bool a0_3]) BKb1.out rfl _ rfl rfl) rfl ?_)
           | ((with_reducible refine gate_d (N := 13) rfl ?_); refine ag_fix (.pointer (some ⟨gb1, 2, none⟩)) (ex_field 29 2 (.pointer (some ⟨gb1, 0, none⟩)) (.pointer (some ⟨gb1, 2, none⟩)) (fa29_2_0 gb1) _ rfl rfl) rfl ?_)
           | ((with_reducible refine gate_d (N := 14) rfl ?_); refine ag_fix (.int .i64 a0_2) (ex_get sT3 gb1 (2) (.int .i64 a0_2) (#[.int .i64 a0_0, .int .i64 a0_1, .int .i64 a0_2, .bool a0_3]) BKb1.out rfl _ rfl rfl) rfl ?_)
           | ((with_reducible refine gate_d (N := 18) rfl ?_); refine ag_fix (.pointer (some ⟨gb1, 2, none⟩)) (ex_field 29 2 (.pointer (some ⟨gb1, 0, none⟩)) (.pointer (some ⟨gb1, 2, none⟩)) (fa29_2_0 gb1) _ rfl rfl) rfl ?_)
           | ((with_reducible refine gate_d (N := 19) rfl ?_); refine ag_fix (.int .i64 a0_2) (ex_get sT3 gb1 (2) (.int .i64 a0_2) (#[.int .i64 a0_0, .int .i64 a0_1, .int .i64 a0_2, .bool a0_3]) BKb1.out rfl _ rfl rfl) rfl ?_)
           | ((with_reducible refine gate_d (N := 23) rfl ?_); refine ag_fix (.pointer (some ⟨gb1, 0, none⟩)) (ex_field 29 0 (.pointer (some ⟨gb1, 0, none⟩)) (.pointer (some ⟨gb1, 0, none⟩)) (fa29_0_0 gb1) _ rfl rfl) rfl ?_)
           | ((with_reducible refine gate_d (N := 24) rfl ?_); refine ag_fix (.int .i64 a0_0) (ex_get sT3 gb1 (0) (.int .i64 a0_0) (#[.int .i64 a0_0, .int .i64 a0_1, .int .i64 a0_2, .bool a0_3]) BKb1.out rfl _ rfl rfl) rfl ?_)
           | ((with_reducible refine gate_d (N := 40) rfl ?_); refine ag_fix (.pointer (some ⟨gb1, 1, none⟩)) (ex_field 29 1 (.pointer (some ⟨gb1, 0, none⟩)) (.pointer (some ⟨gb1, 1, none⟩)) (fa29_1_0 gb1) _ rfl rfl) rfl ?_)
           | ((with_reducible refine gate_d (N := 41) rfl ?_); refine ag_fix (.int .i64 a0_1) (ex_get sT3 gb1 (1) (.int .i64 a0_1) (#[.int .i64 a0_0, .int .i64 a0_1, .int .i64 a0_2, .bool a0_3]) BKb1.out rfl _ rfl rfl) rfl ?_)
           | ((with_reducible refine gate_d (N := 44) rfl ?_); refine ag_fix (.pointer (some ⟨gb1, 1, none⟩)) (ex_field 29 1 (.pointer (some ⟨gb1, 0, none⟩)) (.pointer (some ⟨gb1, 1, none⟩)) (fa29_1_0 gb1) _ rfl rfl) rfl ?_)
           | ((with_reducible refine gate_d (N := 45) rfl ?_); refine ag_fix (.int .i64 a0_1) (ex_get sT3 gb1 (1) (.int .i64 a0_1) (#[.int .i64 a0_0, .int .i64 a0_1, .int .i64 a0_2, .bool a0_3]) BKb1.out rfl _ rfl rfl) rfl ?_)
           | ((with_reducible refine gate_d (N := 49) rfl ?_); refine ag_fix (.pointer (some ⟨gb1, 0, none⟩)) (ex_field 29 0 (.pointer (some ⟨gb1, 0, none⟩)) (.pointer (some ⟨gb1, 0, none⟩)) (fa29_0_0 gb1) _ rfl rfl) rfl ?_)
           | ((with_reducible refine gate_d (N := 50) rfl ?_); refine ag_fix (.int .i64 a0_0) (ex_get sT3 gb1 (0) (.int .i64 a0_0) (#[.int .i64 a0_0, .int .i64 a0_1, .int .i64 a0_2, .bool a0_3]) BKb1.out rfl _ rfl rfl) rfl ?_)
           | ((with_reducible refine gate_d (N := 59) rfl ?_); refine ag_fix (.pointer (some ⟨gb1, 2, none⟩)) (ex_field 29 2 (.pointer (some ⟨gb1, 0, none⟩)) (.pointer (some ⟨gb1, 2, none⟩)) (fa29_2_0 gb1) _ rfl rfl) rfl ?_)
           | ((with_reducible refine gate_d (N := 60) rfl ?_); refine ag_fix (.int .i64 a0_2) (ex_get sT3 gb1 (2) (.int .i64 a0_2) (#[.int .i64 a0_0, .int .i64 a0_1, .int .i64 a0_2, .bool a0_3]) BKb1.out rfl _ rfl rfl) rfl ?_))
          (try simp only [Act.put, sI, sZ, sS])
          go_ret
          exact ⟨by first | rfl | (simp; done) | (simp [*]; done), HL.out⟩
def i_stip_Begins.f (a0_0 : Int) (a0_1 : Int) (a0_2 : Int) (a0_3 : Bool) : Option (Int) := (i_stip_right.f a0_0 a0_1 a0_2 a0_3).bind fun t2 => (if t2 = true then (if a0_0 = 6 then (some 1) else (if a0_0 = 5 then (if a0_3 = true then (some 0) else (some 1)) else (some 0))) else (some (-1)))
set_option maxHeartbeats 40000000 in
set_option maxRecDepth 100000 in
theorem i_stip_Begins.calls (a0_0 : Int) (a0_1 : Int) (a0_2 : Int) (a0_3 : Bool) (r1 : Int) (w : World) (h : i_stip_Begins.f a0_0 a0_1 a0_2 a0_3 = some r1) :
    Calls Try.prog 10 #[.agg #[.int .i64 a0_0, .int .i64 a0_1, .int .i64 a0_2, .bool a0_3]] w fun e w' => e = .returned (.int .i64 r1) ∧ Below w.heap.size w w' := by
 have HL := hid (Below.refl w.heap.size w)
 have H : ((i_stip_right.f a0_0 a0_1 a0_2 a0_3).bind fun t2 => (if t2 = true then (if a0_0 = 6 then (some 1) else (if a0_0 = 5 then (if a0_3 = true then (some 0) else (some 1)) else (some 0))) else (some (-1)))) = some r1 := h
 clear h
 replace H := Option.bind_eq_some_iff.mp H
 obtain ⟨t2, A3_, H⟩ := H
 have A3 := hid A3_
 clear A3_
 cases t2 with
 | true =>
  rw [if_pos rfl] at H
  by_cases c5 : a0_0 = 6
  ·
   rw [if_pos c5] at H
   have c5b0 : (a0_0 == 6) = true := beq_iff_eq.mpr c5
   have c5b1 : (a0_0 != 6) = false := bne_eq_false_iff_eq.mpr c5
   have hc5 := hid c5
   clear c5
   obtain rfl := Option.some.inj H
   clear H
   go_enter Try.func10, Try.ntmps10
   have k7 := True.intro
   go_wp2_with (first
    | ((with_reducible refine gate_d (N := 1) rfl ?_); obtain ⟨gb1, hgb1⟩ : ∃ g_, w.heap.size = g_ := ⟨_, rfl⟩; refine ag_box #[.int .i64 a0_0, .int .i64 a0_1, .int .i64 a0_2, .bool a0_3] gb1 hgb1 rfl _ rfl rfl ?_; intro w6 hb_ hB_ hs_; have GEb1 : Hid (w.heap.size ≤ gb1) := hid (by have := HL.out.size; omega); replace HL := hid (HL.out.trans (hb_.mono GEb1.out)); have BKb1 := hid hB_; clear hb_ hB_ hs_ hgb1)
    | ((with_reducible refine gate_d (N := 4) rfl ?_); refine ag_fix (.agg #[.int .i64 a0_0, .int .i64 a0_1, .int .i64 a0_2, .bool a0_3]) (ex_load aT29 gb1 0 #[.int .i64 a0_0, .int .i64 a0_1, .int .i64 a0_2, .bool a0_3] #[.int .i64 a0_0, .int .i64 a0_1, .int .i64 a0_2, .bool a0_3] BKb1.out (by simp) rfl _ rfl rfl) rfl ?_)
    | (go_at_call 29; clear k7; refine (i_stip_right.calls a0_0 a0_1 a0_2 a0_3 true _ A3.out).mono ?_; rintro e_ w8 ⟨rfl, hb_⟩; replace BKb1 := hid (BKb1.out.below hb_ BKb1.out.lt); replace HL := hid (HL.out.trans (hb_.mono HL.out.size)); clear hb_)
    | ((with_reducible refine gate_d (N := 8) rfl ?_); refine ag_fix (.pointer (some ⟨gb1, 0, none⟩)) (ex_field 29 0 (.pointer (some ⟨gb1, 0, none⟩)) (.pointer (some ⟨gb1, 0, none⟩)) (fa29_0_0 gb1) _ rfl rfl) rfl ?_)
    | ((with_reducible refine gate_d (N := 9) rfl ?_); refine ag_fix (.int .i64 a0_0) (ex_get sT3 gb1 (0) (.int .i64 a0_0) (#[.int .i64 a0_0, .int .i64 a0_1, .int .i64 a0_2, .bool a0_3]) BKb1.out rfl _ rfl rfl) rfl ?_))
   (try simp only [Act.put, sI, sZ, sS])
   go_ret
   exact ⟨by first | rfl | (simp; done) | (simp [*]; done), HL.out⟩
  ·
   rw [if_neg c5] at H
   have c5b0 : (a0_0 == 6) = false := beq_eq_false_iff_ne.mpr c5
   have c5b1 : (a0_0 != 6) = true := bne_iff_ne.mpr c5
   have hc5 := hid c5
   clear c5
   by_cases c9 : a0_0 = 5
   ·
    rw [if_pos c9] at H
    have c9b0 : (a0_0 == 5) = true := beq_iff_eq.mpr c9
    have c9b1 : (a0_0 != 5) = false := bne_eq_false_iff_eq.mpr c9
    have hc9 := hid c9
    clear c9
    cases a0_3 with
    | true =>
     rw [if_pos rfl] at H
     obtain rfl := Option.some.inj H
     clear H
     go_enter Try.func10, Try.ntmps10
     have k12 := True.intro
     go_wp2_with (first
      | ((with_reducible refine gate_d (N := 1) rfl ?_); obtain ⟨gb1, hgb1⟩ : ∃ g_, w.heap.size = g_ := ⟨_, rfl⟩; refine ag_box #[.int .i64 a0_0, .int .i64 a0_1, .int .i64 a0_2, .bool true] gb1 hgb1 rfl _ rfl rfl ?_; intro w11 hb_ hB_ hs_; have GEb1 : Hid (w.heap.size ≤ gb1) := hid (by have := HL.out.size; omega); replace HL := hid (HL.out.trans (hb_.mono GEb1.out)); have BKb1 := hid hB_; clear hb_ hB_ hs_ hgb1)
      | ((with_reducible refine gate_d (N := 4) rfl ?_); refine ag_fix (.agg #[.int .i64 a0_0, .int .i64 a0_1, .int .i64 a0_2, .bool true]) (ex_load aT29 gb1 0 #[.int .i64 a0_0, .int .i64 a0_1, .int .i64 a0_2, .bool true] #[.int .i64 a0_0, .int .i64 a0_1, .int .i64 a0_2, .bool true] BKb1.out (by simp) rfl _ rfl rfl) rfl ?_)
      | (go_at_call 29; clear k12; refine (i_stip_right.calls a0_0 a0_1 a0_2 true true _ A3.out).mono ?_; rintro e_ w13 ⟨rfl, hb_⟩; replace BKb1 := hid (BKb1.out.below hb_ BKb1.out.lt); replace HL := hid (HL.out.trans (hb_.mono HL.out.size)); clear hb_)
      | ((with_reducible refine gate_d (N := 8) rfl ?_); refine ag_fix (.pointer (some ⟨gb1, 0, none⟩)) (ex_field 29 0 (.pointer (some ⟨gb1, 0, none⟩)) (.pointer (some ⟨gb1, 0, none⟩)) (fa29_0_0 gb1) _ rfl rfl) rfl ?_)
      | ((with_reducible refine gate_d (N := 9) rfl ?_); refine ag_fix (.int .i64 a0_0) (ex_get sT3 gb1 (0) (.int .i64 a0_0) (#[.int .i64 a0_0, .int .i64 a0_1, .int .i64 a0_2, .bool true]) BKb1.out rfl _ rfl rfl) rfl ?_)
      | ((with_reducible refine gate_d (N := 12) rfl ?_); refine ag_fix (.pointer (some ⟨gb1, 0, none⟩)) (ex_field 29 0 (.pointer (some ⟨gb1, 0, none⟩)) (.pointer (some ⟨gb1, 0, none⟩)) (fa29_0_0 gb1) _ rfl rfl) rfl ?_)
      | ((with_reducible refine gate_d (N := 13) rfl ?_); refine ag_fix (.int .i64 a0_0) (ex_get sT3 gb1 (0) (.int .i64 a0_0) (#[.int .i64 a0_0, .int .i64 a0_1, .int .i64 a0_2, .bool true]) BKb1.out rfl _ rfl rfl) rfl ?_)
      | ((with_reducible refine gate_d (N := 16) rfl ?_); refine ag_fix (.pointer (some ⟨gb1, 3, none⟩)) (ex_field 29 3 (.pointer (some ⟨gb1, 0, none⟩)) (.pointer (some ⟨gb1, 3, none⟩)) (fa29_3_0 gb1) _ rfl rfl) rfl ?_)
      | ((with_reducible refine gate_d (N := 17) rfl ?_); refine ag_fix (.bool true) (ex_get sT4 gb1 (3) (.bool true) (#[.int .i64 a0_0, .int .i64 a0_1, .int .i64 a0_2, .bool true]) BKb1.out rfl _ rfl rfl) rfl ?_))
     (try simp only [Act.put, sI, sZ, sS])
     go_ret
     exact ⟨by first | rfl | (simp; done) | (simp [*]; done), HL.out⟩
    | false =>
     rw [if_neg (show ¬ (false = true) by decide)] at H
     obtain rfl := Option.some.inj H
     clear H
     go_enter Try.func10, Try.ntmps10
     have k15 := True.intro
     go_wp2_with (first
      | ((with_reducible refine gate_d (N := 1) rfl ?_); obtain ⟨gb1, hgb1⟩ : ∃ g_, w.heap.size = g_ := ⟨_, rfl⟩; refine ag_box #[.int .i64 a0_0, .int .i64 a0_1, .int .i64 a0_2, .bool false] gb1 hgb1 rfl _ rfl rfl ?_; intro w14 hb_ hB_ hs_; have GEb1 : Hid (w.heap.size ≤ gb1) := hid (by have := HL.out.size; omega); replace HL := hid (HL.out.trans (hb_.mono GEb1.out)); have BKb1 := hid hB_; clear hb_ hB_ hs_ hgb1)
      | ((with_reducible refine gate_d (N := 4) rfl ?_); refine ag_fix (.agg #[.int .i64 a0_0, .int .i64 a0_1, .int .i64 a0_2, .bool false]) (ex_load aT29 gb1 0 #[.int .i64 a0_0, .int .i64 a0_1, .int .i64 a0_2, .bool false] #[.int .i64 a0_0, .int .i64 a0_1, .int .i64 a0_2, .bool false] BKb1.out (by simp) rfl _ rfl rfl) rfl ?_)
      | (go_at_call 29; clear k15; refine (i_stip_right.calls a0_0 a0_1 a0_2 false true _ A3.out).mono ?_; rintro e_ w16 ⟨rfl, hb_⟩; replace BKb1 := hid (BKb1.out.below hb_ BKb1.out.lt); replace HL := hid (HL.out.trans (hb_.mono HL.out.size)); clear hb_)
      | ((with_reducible refine gate_d (N := 8) rfl ?_); refine ag_fix (.pointer (some ⟨gb1, 0, none⟩)) (ex_field 29 0 (.pointer (some ⟨gb1, 0, none⟩)) (.pointer (some ⟨gb1, 0, none⟩)) (fa29_0_0 gb1) _ rfl rfl) rfl ?_)
      | ((with_reducible refine gate_d (N := 9) rfl ?_); refine ag_fix (.int .i64 a0_0) (ex_get sT3 gb1 (0) (.int .i64 a0_0) (#[.int .i64 a0_0, .int .i64 a0_1, .int .i64 a0_2, .bool false]) BKb1.out rfl _ rfl rfl) rfl ?_)
      | ((with_reducible refine gate_d (N := 12) rfl ?_); refine ag_fix (.pointer (some ⟨gb1, 0, none⟩)) (ex_field 29 0 (.pointer (some ⟨gb1, 0, none⟩)) (.pointer (some ⟨gb1, 0, none⟩)) (fa29_0_0 gb1) _ rfl rfl) rfl ?_)
      | ((with_reducible refine gate_d (N := 13) rfl ?_); refine ag_fix (.int .i64 a0_0) (ex_get sT3 gb1 (0) (.int .i64 a0_0) (#[.int .i64 a0_0, .int .i64 a0_1, .int .i64 a0_2, .bool false]) BKb1.out rfl _ rfl rfl) rfl ?_)
      | ((with_reducible refine gate_d (N := 16) rfl ?_); refine ag_fix (.pointer (some ⟨gb1, 3, none⟩)) (ex_field 29 3 (.pointer (some ⟨gb1, 0, none⟩)) (.pointer (some ⟨gb1, 3, none⟩)) (fa29_3_0 gb1) _ rfl rfl) rfl ?_)
      | ((with_reducible refine gate_d (N := 17) rfl ?_); refine ag_fix (.bool false) (ex_get sT4 gb1 (3) (.bool false) (#[.int .i64 a0_0, .int .i64 a0_1, .int .i64 a0_2, .bool false]) BKb1.out rfl _ rfl rfl) rfl ?_))
     (try simp only [Act.put, sI, sZ, sS])
     go_ret
     exact ⟨by first | rfl | (simp; done) | (simp [*]; done), HL.out⟩
   ·
    rw [if_neg c9] at H
    have c9b0 : (a0_0 == 5) = false := beq_eq_false_iff_ne.mpr c9
    have c9b1 : (a0_0 != 5) = true := bne_iff_ne.mpr c9
    have hc9 := hid c9
    clear c9
    obtain rfl := Option.some.inj H
    clear H
    go_enter Try.func10, Try.ntmps10
    have k18 := True.intro
    go_wp2_with (first
     | ((with_reducible refine gate_d (N := 1) rfl ?_); obtain ⟨gb1, hgb1⟩ : ∃ g_, w.heap.size = g_ := ⟨_, rfl⟩; refine ag_box #[.int .i64 a0_0, .int .i64 a0_1, .int .i64 a0_2, .bool a0_3] gb1 hgb1 rfl _ rfl rfl ?_; intro w17 hb_ hB_ hs_; have GEb1 : Hid (w.heap.size ≤ gb1) := hid (by have := HL.out.size; omega); replace HL := hid (HL.out.trans (hb_.mono GEb1.out)); have BKb1 := hid hB_; clear hb_ hB_ hs_ hgb1)
     | ((with_reducible refine gate_d (N := 4) rfl ?_); refine ag_fix (.agg #[.int .i64 a0_0, .int .i64 a0_1, .int .i64 a0_2, .bool a0_3]) (ex_load aT29 gb1 0 #[.int .i64 a0_0, .int .i64 a0_1, .int .i64 a0_2, .bool a0_3] #[.int .i64 a0_0, .int .i64 a0_1, .int .i64 a0_2, .bool a0_3] BKb1.out (by simp) rfl _ rfl rfl) rfl ?_)
     | (go_at_call 29; clear k18; refine (i_stip_right.calls a0_0 a0_1 a0_2 a0_3 true _ A3.out).mono ?_; rintro e_ w19 ⟨rfl, hb_⟩; replace BKb1 := hid (BKb1.out.below hb_ BKb1.out.lt); replace HL := hid (HL.out.trans (hb_.mono HL.out.size)); clear hb_)
     | ((with_reducible refine gate_d (N := 8) rfl ?_); refine ag_fix (.pointer (some ⟨gb1, 0, none⟩)) (ex_field 29 0 (.pointer (some ⟨gb1, 0, none⟩)) (.pointer (some ⟨gb1, 0, none⟩)) (fa29_0_0 gb1) _ rfl rfl) rfl ?_)
     | ((with_reducible refine gate_d (N := 9) rfl ?_); refine ag_fix (.int .i64 a0_0) (ex_get sT3 gb1 (0) (.int .i64 a0_0) (#[.int .i64 a0_0, .int .i64 a0_1, .int .i64 a0_2, .bool a0_3]) BKb1.out rfl _ rfl rfl) rfl ?_)
     | ((with_reducible refine gate_d (N := 12) rfl ?_); refine ag_fix (.pointer (some ⟨gb1, 0, none⟩)) (ex_field 29 0 (.pointer (some ⟨gb1, 0, none⟩)) (.pointer (some ⟨gb1, 0, none⟩)) (fa29_0_0 gb1) _ rfl rfl) rfl ?_)
     | ((with_reducible refine gate_d (N := 13) rfl ?_); refine ag_fix (.int .i64 a0_0) (ex_get sT3 gb1 (0) (.int .i64 a0_0) (#[.int .i64 a0_0, .int .i64 a0_1, .int .i64 a0_2, .bool a0_3]) BKb1.out rfl _ rfl rfl) rfl ?_))
    (try simp only [Act.put, sI, sZ, sS])
    go_ret
    exact ⟨by first | rfl | (simp; done) | (simp [*]; done), HL.out⟩
 | false =>
  rw [if_neg (show ¬ (false = true) by decide)] at H
  obtain rfl := Option.some.inj H
  clear H
  go_enter Try.func10, Try.ntmps10
  have k21 := True.intro
  go_wp2_with (first
   | ((with_reducible refine gate_d (N := 1) rfl ?_); obtain ⟨gb1, hgb1⟩ : ∃ g_, w.heap.size = g_ := ⟨_, rfl⟩; refine ag_box #[.int .i64 a0_0, .int .i64 a0_1, .int .i64 a0_2, .bool a0_3] gb1 hgb1 rfl _ rfl rfl ?_; intro w20 hb_ hB_ hs_; have GEb1 : Hid (w.heap.size ≤ gb1) := hid (by have := HL.out.size; omega); replace HL := hid (HL.out.trans (hb_.mono GEb1.out)); have BKb1 := hid hB_; clear hb_ hB_ hs_ hgb1)
   | ((with_reducible refine gate_d (N := 4) rfl ?_); refine ag_fix (.agg #[.int .i64 a0_0, .int .i64 a0_1, .int .i64 a0_2, .bool a0_3]) (ex_load aT29 gb1 0 #[.int .i64 a0_0, .int .i64 a0_1, .int .i64 a0_2, .bool a0_3] #[.int .i64 a0_0, .int .i64 a0_1, .int .i64 a0_2, .bool a0_3] BKb1.out (by simp) rfl _ rfl rfl) rfl ?_)
   | (go_at_call 29; clear k21; refine (i_stip_right.calls a0_0 a0_1 a0_2 a0_3 false _ A3.out).mono ?_; rintro e_ w22 ⟨rfl, hb_⟩; replace BKb1 := hid (BKb1.out.below hb_ BKb1.out.lt); replace HL := hid (HL.out.trans (hb_.mono HL.out.size)); clear hb_))
  (try simp only [Act.put, sI, sZ, sS])
  go_ret
  exact ⟨by first | rfl | (simp; done) | (simp [*]; done), HL.out⟩
end Go.Proofs.Ytaipghemddjecaa
