import Derived.Test.YtaipghemddjecaaProg
import Derived.Test.YtaipghemddjecaaTxz
namespace Go.Proofs.Ytaipghemddjecaa
open Go.RowKit
set_option linter.unusedVariables false
set_option linter.unusedSimpArgs false
set_option maxRecDepth 100000
theorem aT31_agg (w : World) : (isAgg 31).run Try.prog w = .ok true w := by kernel_rfl
theorem aT31_size (w : World) : (sizeOf 31).run Try.prog w = .ok 75 w := by kernel_rfl
theorem aT31_zero (w : World) : (zeroValue 31).run Try.prog w = .ok (.agg (xv (Value.int .i8) zL [.int .i64 0, .int .i64 0, .int .i64 0, .int .i64 0, .int .i64 0, .int .i64 0, .bool false, .bool false, .bool false, .int .i64 0, .int .i64 0])) w := by kernel_rfl
theorem aT31 : AggT Try.prog 31 75 (xv (Value.int .i8) zL [.int .i64 0, .int .i64 0, .int .i64 0, .int .i64 0, .int .i64 0, .int .i64 0, .bool false, .bool false, .bool false, .int .i64 0, .int .i64 0]) := ⟨aT31_agg, aT31_size, aT31_zero, by first | rfl | decide⟩
theorem fa31_0_0 (g : Nat) (w : World) : (Instr.fieldAt 31 (.pointer (some ⟨g, 0, none⟩)) 0).run Try.prog w = .ok (.pointer (some ⟨g, 0, none⟩)) w := by kernel_rfl
theorem fa27_1_0 (g : Nat) (w : World) : (Instr.fieldAt 27 (.pointer (some ⟨g, 0, none⟩)) 1).run Try.prog w = .ok (.pointer (some ⟨g, 64, none⟩)) w := by kernel_rfl
theorem fa27_3_0 (g : Nat) (w : World) : (Instr.fieldAt 27 (.pointer (some ⟨g, 0, none⟩)) 3).run Try.prog w = .ok (.pointer (some ⟨g, 66, none⟩)) w := by kernel_rfl
theorem fa31_5_0 (g : Nat) (w : World) : (Instr.fieldAt 31 (.pointer (some ⟨g, 0, none⟩)) 5).run Try.prog w = .ok (.pointer (some ⟨g, 74, none⟩)) w := by kernel_rfl
theorem fa31_1_0 (g : Nat) (w : World) : (Instr.fieldAt 31 (.pointer (some ⟨g, 0, none⟩)) 1).run Try.prog w = .ok (.pointer (some ⟨g, 67, none⟩)) w := by kernel_rfl
theorem eqS29 (d : Nat) (w : World) (x0 y0 : Int) (x1 y1 : Int) (x2 y2 : Int) (x3 y3 : Bool) : (Op.equalIn (d + 2) 29 (.agg #[.int .i64 x0, .int .i64 x1, .int .i64 x2, .bool x3]) (.agg #[.int .i64 y0, .int .i64 y1, .int .i64 y2, .bool y3])).run Try.prog w = .ok ((x0 == y0) && ((x1 == y1) && ((x2 == y2) && ((x3 == y3))))) w := by
  refine eqs_of Try.underlying29 (by kernel_rfl) ?_
  refine eqs_more (by rfl) (by go_simp; rfl) (by go_simp; rfl) (by go_simp) ?_
  refine eqs_more (by rfl) (by go_simp; rfl) (by go_simp; rfl) (by go_simp) ?_
  refine eqs_more (by rfl) (by go_simp; rfl) (by go_simp; rfl) (by go_simp) ?_
  exact eqs_last (by rfl) (by go_simp; rfl) (by go_simp; rfl) (by go_simp)
def i_alfillaw16_wakes.f (k : Nat)  : Option (Bool) := (i_task_Read.f k (⟨#[98, 101, 103, 105, 110, 10, 102, 111, 114, 115, 121, 116, 104, 32, 56, 47, 56, 47, 56, 47, 56, 47, 56, 47, 49, 75, 54, 47, 56, 47, 107, 54, 82, 10, 115, 116, 105, 112, 32, 35, 49, 10, 101, 110, 100, 10]⟩ : ByteArray)).bind fun bt1 => (if bt1.2.2.2.2.2.2.2.2.2.2.2.2.2 = 0 then (if bt1.2.1 = 0 then (if bt1.2.2.2.1 = (-1) then (if bt1.2.2.2.2.2.2.2.2.2.2.2.1 = (-1) then (if ((bt1.2.2.2.2.1 == 1) && ((bt1.2.2.2.2.2.1 == 1) && ((bt1.2.2.2.2.2.2.1 == 1) && ((bt1.2.2.2.2.2.2.2.1 == false))))) = true then (some true) else (some false)) else (some false)) else (some false)) else (some false)) else (some false))
set_option maxHeartbeats 40000000 in
set_option maxRecDepth 100000 in
theorem i_alfillaw16_wakes.calls (k : Nat) (r1 : Bool) (w : World) (h : i_alfillaw16_wakes.f k = some r1) :
    Calls Try.prog 4 #[] w fun e w' => e = .returned (.bool r1) ∧ Below w.heap.size w w' := by
 have HL := hid (Below.refl w.heap.size w)
 have H : ((i_task_Read.f k (⟨#[98, 101, 103, 105, 110, 10, 102, 111, 114, 115, 121, 116, 104, 32, 56, 47, 56, 47, 56, 47, 56, 47, 56, 47, 49, 75, 54, 47, 56, 47, 107, 54, 82, 10, 115, 116, 105, 112, 32, 35, 49, 10, 101, 110, 100, 10]⟩ : ByteArray)).bind fun bt1 => (if bt1.2.2.2.2.2.2.2.2.2.2.2.2.2 = 0 then (if bt1.2.1 = 0 then (if bt1.2.2.2.1 = (-1) then (if bt1.2.2.2.2.2.2.2.2.2.2.2.1 = (-1) then (if ((bt1.2.2.2.2.1 == 1) && ((bt1.2.2.2.2.2.1 == 1) && ((bt1.2.2.2.2.2.2.1 == 1) && ((bt1.2.2.2.2.2.2.2.1 == false))))) = true then (some true) else (some false)) else (some false)) else (some false)) else (some false)) else (some false))) = some r1 := h
 clear h
 replace H := Option.bind_eq_some_iff.mp H
 obtain ⟨⟨t1, t2, t3, t4, t5, t6, t7, t8, t9, t10, t11, t12, t13, t14⟩, A16_, H⟩ := H
 dsimp only at H
 have A16 := hid A16_
 clear A16_
 by_cases c17 : t14 = 0
 ·
  rw [if_pos c17] at H
  have c17b0 : (t14 == 0) = true := beq_iff_eq.mpr c17
  have c17b1 : (t14 != 0) = false := bne_eq_false_iff_eq.mpr c17
  have hc17 := hid c17
  clear c17
  by_cases c18 : t2 = 0
  ·
   rw [if_pos c18] at H
   have c18b0 : (t2 == 0) = true := beq_iff_eq.mpr c18
   have c18b1 : (t2 != 0) = false := bne_eq_false_iff_eq.mpr c18
   have hc18 := hid c18
   clear c18
   by_cases c19 : t4 = (-1)
   ·
    rw [if_pos c19] at H
    have c19b0 : (t4 == (-1)) = true := beq_iff_eq.mpr c19
    have c19b1 : (t4 != (-1)) = false := bne_eq_false_iff_eq.mpr c19
    have hc19 := hid c19
    clear c19
    by_cases c20 : t12 = (-1)
    ·
     rw [if_pos c20] at H
     have c20b0 : (t12 == (-1)) = true := beq_iff_eq.mpr c20
     have c20b1 : (t12 != (-1)) = false := bne_eq_false_iff_eq.mpr c20
     have hc20 := hid c20
     clear c20
     by_cases c21 : ((t5 == 1) && ((t6 == 1) && ((t7 == 1) && ((t8 == false))))) = true
     ·
      rw [if_pos c21] at H
      have c21b0 : ((t5 == 1) && ((t6 == 1) && ((t7 == 1) && ((t8 == false))))) = true := c21
      have hc21 := hid c21
      clear c21
      obtain rfl := Option.some.inj H
      clear H
      go_enter Try.func4, Try.ntmps4
      have k22 := True.intro
      go_wp2_with (first
       | (go_at_call 5; clear k22; refine (i_task_Read.calls k (⟨#[98, 101, 103, 105, 110, 10, 102, 111, 114, 115, 121, 116, 104, 32, 56, 47, 56, 47, 56, 47, 56, 47, 56, 47, 49, 75, 54, 47, 56, 47, 107, 54, 82, 10, 115, 116, 105, 112, 32, 35, 49, 10, 101, 110, 100, 10]⟩ : ByteArray) t1 t2 t3 t4 t5 t6 t7 t8 t9 t10 t11 t12 t13 t14 _ A16.out).mono ?_; rintro e_ w23 ⟨rfl, ln_t1, hb_⟩; have LN_t1 := hid ln_t1; clear ln_t1; replace HL := hid (HL.out.trans (hb_.mono HL.out.size)); clear hb_)
       | ((with_reducible refine gate_d (N := 1) rfl ?_); obtain ⟨gb15, hgb15⟩ : ∃ g_, w23.heap.size = g_ := ⟨_, rfl⟩; refine ag_alloc aT31 gb15 hgb15 rfl rfl ?_; intro w24 hb_ hB_ hs_; have GEb15 : Hid (w.heap.size ≤ gb15) := hid (by have := HL.out.size; omega); replace HL := hid (HL.out.trans (hb_.mono GEb15.out)); have BKb15 := hid hB_; clear hb_ hB_ hs_ hgb15)
       | ((with_reducible refine gate_s (t := 31) (p := 1) rfl ?_); refine ag_store aT31 gb15 0 (xv (Value.int .i8) zL [.int .i64 0, .int .i64 0, .int .i64 0, .int .i64 0, .int .i64 0, .int .i64 0, .bool false, .bool false, .bool false, .int .i64 0, .int .i64 0]) (xv (Value.int .i8) t1 [.int .i64 t2, .int .i64 t3, .int .i64 t4, .int .i64 t5, .int .i64 t6, .int .i64 t7, .bool t8, .bool t9, .bool t10, .int .i64 t11, .int .i64 t12]) (xv (Value.int .i8) t1 [.int .i64 t2, .int .i64 t3, .int .i64 t4, .int .i64 t5, .int .i64 t6, .int .i64 t7, .bool t8, .bool t9, .bool t10, .int .i64 t11, .int .i64 t12]) BKb15.out (by rw [show (xv (Value.int .i8) t1 [.int .i64 t2, .int .i64 t3, .int .i64 t4, .int .i64 t5, .int .i64 t6, .int .i64 t7, .bool t8, .bool t9, .bool t10, .int .i64 t11, .int .i64 t12]) = xv (Value.int .i8) t1 [.int .i64 t2, .int .i64 t3, .int .i64 t4, .int .i64 t5, .int .i64 t6, .int .i64 t7, .bool t8, .bool t9, .bool t10, .int .i64 t11, .int .i64 t12] from rfl, xv_size, show t1.length = 64 from LN_t1.out]; rfl) (xv_le zL_len 75 rfl) (xv_one (fun _ => rfl) (by intro v_ hv_; simp at hv_; rcases hv_ with rfl | rfl | rfl | rfl | rfl | rfl | rfl | rfl | rfl | rfl | rfl <;> rfl)) (xv_put zL_len LN_t1.out rfl) rfl _ _ rfl rfl rfl ?_; intro w25 ho_ hB_; replace HL := hid (ho_.below HL.out GEb15.out); replace BKb15 := hid hB_; clear ho_ hB_)
       | ((with_reducible refine gate_d (N := 12) rfl ?_); refine ag_fix (.pointer (some ⟨gb15, 0, none⟩)) (ex_field 31 0 (.pointer (some ⟨gb15, 0, none⟩)) (.pointer (some ⟨gb15, 0, none⟩)) (fa31_0_0 gb15) _ rfl rfl) rfl ?_)
       | ((with_reducible refine gate_d (N := 13) rfl ?_); refine ag_fix (.pointer (some ⟨gb15, 64, none⟩)) (ex_field 27 1 (.pointer (some ⟨gb15, 0, none⟩)) (.pointer (some ⟨gb15, 64, none⟩)) (fa27_1_0 gb15) _ rfl rfl) rfl ?_)
       | ((with_reducible refine gate_d (N := 14) rfl ?_); refine ag_fix (.int .i64 t2) (ex_get sT3 gb15 (64) (.int .i64 t2) ((xv (Value.int .i8) t1 [.int .i64 t2, .int .i64 t3, .int .i64 t4, .int .i64 t5, .int .i64 t6, .int .i64 t7, .bool t8, .bool t9, .bool t10, .int .i64 t11, .int .i64 t12])) BKb15.out ((xv_cell (n := 64) LN_t1.out 0 64 (by omega)).trans rfl) _ rfl rfl) rfl ?_)
       | ((with_reducible refine gate_d (N := 18) rfl ?_); refine ag_fix (.pointer (some ⟨gb15, 0, none⟩)) (ex_field 31 0 (.pointer (some ⟨gb15, 0, none⟩)) (.pointer (some ⟨gb15, 0, none⟩)) (fa31_0_0 gb15) _ rfl rfl) rfl ?_)
       | ((with_reducible refine gate_d (N := 19) rfl ?_); refine ag_fix (.pointer (some ⟨gb15, 66, none⟩)) (ex_field 27 3 (.pointer (some ⟨gb15, 0, none⟩)) (.pointer (some ⟨gb15, 66, none⟩)) (fa27_3_0 gb15) _ rfl rfl) rfl ?_)
       | ((with_reducible refine gate_d (N := 20) rfl ?_); refine ag_fix (.int .i64 t4) (ex_get sT3 gb15 (66) (.int .i64 t4) ((xv (Value.int .i8) t1 [.int .i64 t2, .int .i64 t3, .int .i64 t4, .int .i64 t5, .int .i64 t6, .int .i64 t7, .bool t8, .bool t9, .bool t10, .int .i64 t11, .int .i64 t12])) BKb15.out ((xv_cell (n := 64) LN_t1.out 2 66 (by omega)).trans rfl) _ rfl rfl) rfl ?_)
       | ((with_reducible refine gate_d (N := 24) rfl ?_); refine ag_fix (.pointer (some ⟨gb15, 74, none⟩)) (ex_field 31 5 (.pointer (some ⟨gb15, 0, none⟩)) (.pointer (some ⟨gb15, 74, none⟩)) (fa31_5_0 gb15) _ rfl rfl) rfl ?_)
       | ((with_reducible refine gate_d (N := 25) rfl ?_); refine ag_fix (.int .i64 t12) (ex_get sT3 gb15 (74) (.int .i64 t12) ((xv (Value.int .i8) t1 [.int .i64 t2, .int .i64 t3, .int .i64 t4, .int .i64 t5, .int .i64 t6, .int .i64 t7, .bool t8, .bool t9, .bool t10, .int .i64 t11, .int .i64 t12])) BKb15.out ((xv_cell (n := 64) LN_t1.out 10 74 (by omega)).trans rfl) _ rfl rfl) rfl ?_)
       | ((with_reducible refine gate_d (N := 29) rfl ?_); refine ag_fix (.pointer (some ⟨gb15, 67, none⟩)) (ex_field 31 1 (.pointer (some ⟨gb15, 0, none⟩)) (.pointer (some ⟨gb15, 67, none⟩)) (fa31_1_0 gb15) _ rfl rfl) rfl ?_)
       | ((with_reducible refine gate_d (N := 30) rfl ?_); refine ag_fix (.agg #[.int .i64 t5, .int .i64 t6, .int .i64 t7, .bool t8]) (ex_load aT29 gb15 67 (xv (Value.int .i8) t1 [.int .i64 t2, .int .i64 t3, .int .i64 t4, .int .i64 t5, .int .i64 t6, .int .i64 t7, .bool t8, .bool t9, .bool t10, .int .i64 t11, .int .i64 t12]) #[.int .i64 t5, .int .i64 t6, .int .i64 t7, .bool t8] BKb15.out (xv_lem (n := 64) (c := 11) LN_t1.out rfl (m := 71) (by decide)) (xv_exs (n := 64) LN_t1.out 3 67 4 (by decide)) _ rfl rfl) rfl ?_)
       | ((with_reducible refine gate_d (N := 31) rfl ?_); refine ag_build (.agg #[.int .i64 1, .int .i64 1, .int .i64 1, .bool false]) _ rfl rfl ?_ ?_; (intro ww_; simp only [List.map_toArray, List.map_cons, List.map_nil]; kernel_rfl))
       | ((with_reducible refine gate_d (N := 32) rfl ?_); refine ag_fix (.bool true) (ex_eq .eql 29 (.agg #[.int .i64 t5, .int .i64 t6, .int .i64 t7, .bool t8]) (.agg #[.int .i64 1, .int .i64 1, .int .i64 1, .bool false]) (.bool true) (fun x_ y_ w_ => guard_any (by kernel_rfl) _ x_ y_ w_) (fun w_ => (eq_bin (fun d_ w2_ => eqS29 d_ w2_ t5 1 t6 1 t7 1 t8 false ) (by decide) w_).trans (by rw [show ((t5 == 1) && ((t6 == 1) && ((t7 == 1) && ((t8 == false))))) = true from hc21.out])) _ _ _ rfl rfl rfl) rfl ?_))
      (try simp only [Act.put, sI, sZ, sS])
      go_ret
      exact ⟨by first | rfl | (simp; done) | (simp [*]; done), HL.out⟩
     ·
      rw [if_neg c21] at H
      have c21b0 : ((t5 == 1) && ((t6 == 1) && ((t7 == 1) && ((t8 == false))))) = false := by simpa using c21
      have hc21 := hid c21
      clear c21
      obtain rfl := Option.some.inj H
      clear H
      go_enter Try.func4, Try.ntmps4
      have k26 := True.intro
      go_wp2_with (first
       | (go_at_call 5; clear k26; refine (i_task_Read.calls k (⟨#[98, 101, 103, 105, 110, 10, 102, 111, 114, 115, 121, 116, 104, 32, 56, 47, 56, 47, 56, 47, 56, 47, 56, 47, 49, 75, 54, 47, 56, 47, 107, 54, 82, 10, 115, 116, 105, 112, 32, 35, 49, 10, 101, 110, 100, 10]⟩ : ByteArray) t1 t2 t3 t4 t5 t6 t7 t8 t9 t10 t11 t12 t13 t14 _ A16.out).mono ?_; rintro e_ w27 ⟨rfl, ln_t1, hb_⟩; have LN_t1 := hid ln_t1; clear ln_t1; replace HL := hid (HL.out.trans (hb_.mono HL.out.size)); clear hb_)
       | ((with_reducible refine gate_d (N := 1) rfl ?_); obtain ⟨gb15, hgb15⟩ : ∃ g_, w27.heap.size = g_ := ⟨_, rfl⟩; refine ag_alloc aT31 gb15 hgb15 rfl rfl ?_; intro w28 hb_ hB_ hs_; have GEb15 : Hid (w.heap.size ≤ gb15) := hid (by have := HL.out.size; omega); replace HL := hid (HL.out.trans (hb_.mono GEb15.out)); have BKb15 := hid hB_; clear hb_ hB_ hs_ hgb15)
       | ((with_reducible refine gate_s (t := 31) (p := 1) rfl ?_); refine ag_store aT31 gb15 0 (xv (Value.int .i8) zL [.int .i64 0, .int .i64 0, .int .i64 0, .int .i64 0, .int .i64 0, .int .i64 0, .bool false, .bool false, .bool false, .int .i64 0, .int .i64 0]) (xv (Value.int .i8) t1 [.int .i64 t2, .int .i64 t3, .int .i64 t4, .int .i64 t5, .int .i64 t6, .int .i64 t7, .bool t8, .bool t9, .bool t10, .int .i64 t11, .int .i64 t12]) (xv (Value.int .i8) t1 [.int .i64 t2, .int .i64 t3, .int .i64 t4, .int .i64 t5, .int .i64 t6, .int .i64 t7, .bool t8, .bool t9, .bool t10, .int .i64 t11, .int .i64 t12]) BKb15.out (by rw [show (xv (Value.int .i8) t1 [.int .i64 t2, .int .i64 t3, .int .i64 t4, .int .i64 t5, .int .i64 t6, .int .i64 t7, .bool t8, .bool t9, .bool t10, .int .i64 t11, .int .i64 t12]) = xv (Value.int .i8) t1 [.int .i64 t2, .int .i64 t3, .int .i64 t4, .int .i64 t5, .int .i64 t6, .int .i64 t7, .bool t8, .bool t9, .bool t10, .int .i64 t11, .int .i64 t12] from rfl, xv_size, show t1.length = 64 from LN_t1.out]; rfl) (xv_le zL_len 75 rfl) (xv_one (fun _ => rfl) (by intro v_ hv_; simp at hv_; rcases hv_ with rfl | rfl | rfl | rfl | rfl | rfl | rfl | rfl | rfl | rfl | rfl <;> rfl)) (xv_put zL_len LN_t1.out rfl) rfl _ _ rfl rfl rfl ?_; intro w29 ho_ hB_; replace HL := hid (ho_.below HL.out GEb15.out); replace BKb15 := hid hB_; clear ho_ hB_)
       | ((with_reducible refine gate_d (N := 12) rfl ?_); refine ag_fix (.pointer (some ⟨gb15, 0, none⟩)) (ex_field 31 0 (.pointer (some ⟨gb15, 0, none⟩)) (.pointer (some ⟨gb15, 0, none⟩)) (fa31_0_0 gb15) _ rfl rfl) rfl ?_)
       | ((with_reducible refine gate_d (N := 13) rfl ?_); refine ag_fix (.pointer (some ⟨gb15, 64, none⟩)) (ex_field 27 1 (.pointer (some ⟨gb15, 0, none⟩)) (.pointer (some ⟨gb15, 64, none⟩)) (fa27_1_0 gb15) _ rfl rfl) rfl ?_)
       | ((with_reducible refine gate_d (N := 14) rfl ?_); refine ag_fix (.int .i64 t2) (ex_get sT3 gb15 (64) (.int .i64 t2) ((xv (Value.int .i8) t1 [.int .i64 t2, .int .i64 t3, .int .i64 t4, .int .i64 t5, .int .i64 t6, .int .i64 t7, .bool t8, .bool t9, .bool t10, .int .i64 t11, .int .i64 t12])) BKb15.out ((xv_cell (n := 64) LN_t1.out 0 64 (by omega)).trans rfl) _ rfl rfl) rfl ?_)
       | ((with_reducible refine gate_d (N := 18) rfl ?_); refine ag_fix (.pointer (some ⟨gb15, 0, none⟩)) (ex_field 31 0 (.pointer (some ⟨gb15, 0, none⟩)) (.pointer (some ⟨gb15, 0, none⟩)) (fa31_0_0 gb15) _ rfl rfl) rfl ?_)
       | ((with_reducible refine gate_d (N := 19) rfl ?_); refine ag_fix (.pointer (some ⟨gb15, 66, none⟩)) (ex_field 27 3 (.pointer (some ⟨gb15, 0, none⟩)) (.pointer (some ⟨gb15, 66, none⟩)) (fa27_3_0 gb15) _ rfl rfl) rfl ?_)
       | ((with_reducible refine gate_d (N := 20) rfl ?_); refine ag_fix (.int .i64 t4) (ex_get sT3 gb15 (66) (.int .i64 t4) ((xv (Value.int .i8) t1 [.int .i64 t2, .int .i64 t3, .int .i64 t4, .int .i64 t5, .int .i64 t6, .int .i64 t7, .bool t8, .bool t9, .bool t10, .int .i64 t11, .int .i64 t12])) BKb15.out ((xv_cell (n := 64) LN_t1.out 2 66 (by omega)).trans rfl) _ rfl rfl) rfl ?_)
       | ((with_reducible refine gate_d (N := 24) rfl ?_); refine ag_fix (.pointer (some ⟨gb15, 74, none⟩)) (ex_field 31 5 (.pointer (some ⟨gb15, 0, none⟩)) (.pointer (some ⟨gb15, 74, none⟩)) (fa31_5_0 gb15) _ rfl rfl) rfl ?_)
       | ((with_reducible refine gate_d (N := 25) rfl ?_); refine ag_fix (.int .i64 t12) (ex_get sT3 gb15 (74) (.int .i64 t12) ((xv (Value.int .i8) t1 [.int .i64 t2, .int .i64 t3, .int .i64 t4, .int .i64 t5, .int .i64 t6, .int .i64 t7, .bool t8, .bool t9, .bool t10, .int .i64 t11, .int .i64 t12])) BKb15.out ((xv_cell (n := 64) LN_t1.out 10 74 (by omega)).trans rfl) _ rfl rfl) rfl ?_)
       | ((with_reducible refine gate_d (N := 29) rfl ?_); refine ag_fix (.pointer (some ⟨gb15, 67, none⟩)) (ex_field 31 1 (.pointer (some ⟨gb15, 0, none⟩)) (.pointer (some ⟨gb15, 67, none⟩)) (fa31_1_0 gb15) _ rfl rfl) rfl ?_)
       | ((with_reducible refine gate_d (N := 30) rfl ?_); refine ag_fix (.agg #[.int .i64 t5, .int .i64 t6, .int .i64 t7, .bool t8]) (ex_load aT29 gb15 67 (xv (Value.int .i8) t1 [.int .i64 t2, .int .i64 t3, .int .i64 t4, .int .i64 t5, .int .i64 t6, .int .i64 t7, .bool t8, .bool t9, .bool t10, .int .i64 t11, .int .i64 t12]) #[.int .i64 t5, .int .i64 t6, .int .i64 t7, .bool t8] BKb15.out (xv_lem (n := 64) (c := 11) LN_t1.out rfl (m := 71) (by decide)) (xv_exs (n := 64) LN_t1.out 3 67 4 (by decide)) _ rfl rfl) rfl ?_)
       | ((with_reducible refine gate_d (N := 31) rfl ?_); refine ag_build (.agg #[.int .i64 1, .int .i64 1, .int .i64 1, .bool false]) _ rfl rfl ?_ ?_; (intro ww_; simp only [List.map_toArray, List.map_cons, List.map_nil]; kernel_rfl))
       | ((with_reducible refine gate_d (N := 32) rfl ?_); refine ag_fix (.bool false) (ex_eq .eql 29 (.agg #[.int .i64 t5, .int .i64 t6, .int .i64 t7, .bool t8]) (.agg #[.int .i64 1, .int .i64 1, .int .i64 1, .bool false]) (.bool false) (fun x_ y_ w_ => guard_any (by kernel_rfl) _ x_ y_ w_) (fun w_ => (eq_bin (fun d_ w2_ => eqS29 d_ w2_ t5 1 t6 1 t7 1 t8 false ) (by decide) w_).trans (by rw [show ((t5 == 1) && ((t6 == 1) && ((t7 == 1) && ((t8 == false))))) = false from Bool.eq_false_iff.mpr hc21.out])) _ _ _ rfl rfl rfl) rfl ?_))
      (try simp only [Act.put, sI, sZ, sS])
      go_ret
      exact ⟨by first | rfl | (simp; done) | (simp [*]; done), HL.out⟩
    ·
     rw [if_neg c20] at H
     have c20b0 : (t12 == (-1)) = false := beq_eq_false_iff_ne.mpr c20
     have c20b1 : (t12 != (-1)) = true := bne_iff_ne.mpr c20
     have hc20 := hid c20
     clear c20
     obtain rfl := Option.some.inj H
     clear H
     go_enter Try.func4, Try.ntmps4
     have k30 := True.intro
     go_wp2_with (first
      | (go_at_call 5; clear k30; refine (i_task_Read.calls k (⟨#[98, 101, 103, 105, 110, 10, 102, 111, 114, 115, 121, 116, 104, 32, 56, 47, 56, 47, 56, 47, 56, 47, 56, 47, 49, 75, 54, 47, 56, 47, 107, 54, 82, 10, 115, 116, 105, 112, 32, 35, 49, 10, 101, 110, 100, 10]⟩ : ByteArray) t1 t2 t3 t4 t5 t6 t7 t8 t9 t10 t11 t12 t13 t14 _ A16.out).mono ?_; rintro e_ w31 ⟨rfl, ln_t1, hb_⟩; have LN_t1 := hid ln_t1; clear ln_t1; replace HL := hid (HL.out.trans (hb_.mono HL.out.size)); clear hb_)
      | ((with_reducible refine gate_d (N := 1) rfl ?_); obtain ⟨gb15, hgb15⟩ : ∃ g_, w31.heap.size = g_ := ⟨_, rfl⟩; refine ag_alloc aT31 gb15 hgb15 rfl rfl ?_; intro w32 hb_ hB_ hs_; have GEb15 : Hid (w.heap.size ≤ gb15) := hid (by have := HL.out.size; omega); replace HL := hid (HL.out.trans (hb_.mono GEb15.out)); have BKb15 := hid hB_; clear hb_ hB_ hs_ hgb15)
      | ((with_reducible refine gate_s (t := 31) (p := 1) rfl ?_); refine ag_store aT31 gb15 0 (xv (Value.int .i8) zL [.int .i64 0, .int .i64 0, .int .i64 0, .int .i64 0, .int .i64 0, .int .i64 0, .bool false, .bool false, .bool false, .int .i64 0, .int .i64 0]) (xv (Value.int .i8) t1 [.int .i64 t2, .int .i64 t3, .int .i64 t4, .int .i64 t5, .int .i64 t6, .int .i64 t7, .bool t8, .bool t9, .bool t10, .int .i64 t11, .int .i64 t12]) (xv (Value.int .i8) t1 [.int .i64 t2, .int .i64 t3, .int .i64 t4, .int .i64 t5, .int .i64 t6, .int .i64 t7, .bool t8, .bool t9, .bool t10, .int .i64 t11, .int .i64 t12]) BKb15.out (by rw [show (xv (Value.int .i8) t1 [.int .i64 t2, .int .i64 t3, .int .i64 t4, .int .i64 t5, .int .i64 t6, .int .i64 t7, .bool t8, .bool t9, .bool t10, .int .i64 t11, .int .i64 t12]) = xv (Value.int .i8) t1 [.int .i64 t2, .int .i64 t3, .int .i64 t4, .int .i64 t5, .int .i64 t6, .int .i64 t7, .bool t8, .bool t9, .bool t10, .int .i64 t11, .int .i64 t12] from rfl, xv_size, show t1.length = 64 from LN_t1.out]; rfl) (xv_le zL_len 75 rfl) (xv_one (fun _ => rfl) (by intro v_ hv_; simp at hv_; rcases hv_ with rfl | rfl | rfl | rfl | rfl | rfl | rfl | rfl | rfl | rfl | rfl <;> rfl)) (xv_put zL_len LN_t1.out rfl) rfl _ _ rfl rfl rfl ?_; intro w33 ho_ hB_; replace HL := hid (ho_.below HL.out GEb15.out); replace BKb15 := hid hB_; clear ho_ hB_)
      | ((with_reducible refine gate_d (N := 12) rfl ?_); refine ag_fix (.pointer (some ⟨gb15, 0, none⟩)) (ex_field 31 0 (.pointer (some ⟨gb15, 0, none⟩)) (.pointer (some ⟨gb15, 0, none⟩)) (fa31_0_0 gb15) _ rfl rfl) rfl ?_)
      | ((with_reducible refine gate_d (N := 13) rfl ?_); refine ag_fix (.pointer (some ⟨gb15, 64, none⟩)) (ex_field 27 1 (.pointer (some ⟨gb15, 0, none⟩)) (.pointer (some ⟨gb15, 64, none⟩)) (fa27_1_0 gb15) _ rfl rfl) rfl ?_)
      | ((with_reducible refine gate_d (N := 14) rfl ?_); refine ag_fix (.int .i64 t2) (ex_get sT3 gb15 (64) (.int .i64 t2) ((xv (Value.int .i8) t1 [.int .i64 t2, .int .i64 t3, .int .i64 t4, .int .i64 t5, .int .i64 t6, .int .i64 t7, .bool t8, .bool t9, .bool t10, .int .i64 t11, .int .i64 t12])) BKb15.out ((xv_cell (n := 64) LN_t1.out 0 64 (by omega)).trans rfl) _ rfl rfl) rfl ?_)
      | ((with_reducible refine gate_d (N := 18) rfl ?_); refine ag_fix (.pointer (some ⟨gb15, 0, none⟩)) (ex_field 31 0 (.pointer (some ⟨gb15, 0, none⟩)) (.pointer (some ⟨gb15, 0, none⟩)) (fa31_0_0 gb15) _ rfl rfl) rfl ?_)
      | ((with_reducible refine gate_d (N := 19) rfl ?_); refine ag_fix (.pointer (some ⟨gb15, 66, none⟩)) (ex_field 27 3 (.pointer (some ⟨gb15, 0, none⟩)) (.pointer (some ⟨gb15, 66, none⟩)) (fa27_3_0 gb15) _ rfl rfl) rfl ?_)
      | ((with_reducible refine gate_d (N := 20) rfl ?_); refine ag_fix (.int .i64 t4) (ex_get sT3 gb15 (66) (.int .i64 t4) ((xv (Value.int .i8) t1 [.int .i64 t2, .int .i64 t3, .int .i64 t4, .int .i64 t5, .int .i64 t6, .int .i64 t7, .bool t8, .bool t9, .bool t10, .int .i64 t11, .int .i64 t12])) BKb15.out ((xv_cell (n := 64) LN_t1.out 2 66 (by omega)).trans rfl) _ rfl rfl) rfl ?_)
      | ((with_reducible refine gate_d (N := 24) rfl ?_); refine ag_fix (.pointer (some ⟨gb15, 74, none⟩)) (ex_field 31 5 (.pointer (some ⟨gb15, 0, none⟩)) (.pointer (some ⟨gb15, 74, none⟩)) (fa31_5_0 gb15) _ rfl rfl) rfl ?_)
      | ((with_reducible refine gate_d (N := 25) rfl ?_); refine ag_fix (.int .i64 t12) (ex_get sT3 gb15 (74) (.int .i64 t12) ((xv (Value.int .i8) t1 [.int .i64 t2, .int .i64 t3, .int .i64 t4, .int .i64 t5, .int .i64 t6, .int .i64 t7, .bool t8, .bool t9, .bool t10, .int .i64 t11, .int .i64 t12])) BKb15.out ((xv_cell (n := 64) LN_t1.out 10 74 (by omega)).trans rfl) _ rfl rfl) rfl ?_))
     (try simp only [Act.put, sI, sZ, sS])
     go_ret
     exact ⟨by first | rfl | (simp; done) | (simp [*]; done), HL.out⟩
   ·
    rw [if_neg c19] at H
    have c19b0 : (t4 == (-1)) = false := beq_eq_false_iff_ne.mpr c19
    have c19b1 : (t4 != (-1)) = true := bne_iff_ne.mpr c19
    have hc19 := hid c19
    clear c19
    obtain rfl := Option.some.inj H
    clear H
    go_enter Try.func4, Try.ntmps4
    have k34 := True.intro
    go_wp2_with (first
     | (go_at_call 5; clear k34; refine (i_task_Read.calls k (⟨#[98, 101, 103, 105, 110, 10, 102, 111, 114, 115, 121, 116, 104, 32, 56, 47, 56, 47, 56, 47, 56, 47, 56, 47, 49, 75, 54, 47, 56, 47, 107, 54, 82, 10, 115, 116, 105, 112, 32, 35, 49, 10, 101, 110, 100, 10]⟩ : ByteArray) t1 t2 t3 t4 t5 t6 t7 t8 t9 t10 t11 t12 t13 t14 _ A16.out).mono ?_; rintro e_ w35 ⟨rfl, ln_t1, hb_⟩; have LN_t1 := hid ln_t1; clear ln_t1; replace HL := hid (HL.out.trans (hb_.mono HL.out.size)); clear hb_)
     | ((with_reducible refine gate_d (N := 1) rfl ?_); obtain ⟨gb15, hgb15⟩ : ∃ g_, w35.heap.size = g_ := ⟨_, rfl⟩; refine ag_alloc aT31 gb15 hgb15 rfl rfl ?_; intro w36 hb_ hB_ hs_; have GEb15 : Hid (w.heap.size ≤ gb15) := hid (by have := HL.out.size; omega); replace HL := hid (HL.out.trans (hb_.mono GEb15.out)); have BKb15 := hid hB_; clear hb_ hB_ hs_ hgb15)
     | ((with_reducible refine gate_s (t := 31) (p := 1) rfl ?_); refine ag_store aT31 gb15 0 (xv (Value.int .i8) zL [.int .i64 0, .int .i64 0, .int .i64 0, .int .i64 0, .int .i64 0, .int .i64 0, .bool false, .bool false, .bool false, .int .i64 0, .int .i64 0]) (xv (Value.int .i8) t1 [.int .i64 t2, .int .i64 t3, .int .i64 t4, .int .i64 t5, .int .i64 t6, .int .i64 t7, .bool t8, .bool t9, .bool t10, .int .i64 t11, .int .i64 t12]) (xv (Value.int .i8) t1 [.int .i64 t2, .int .i64 t3, .int .i64 t4, .int .i64 t5, .int .i64 t6, .int .i64 t7, .bool t8, .bool t9, .bool t10, .int .i64 t11, .int .i64 t12]) BKb15.out (by rw [show (xv (Value.int .i8) t1 [.int .i64 t2, .int .i64 t3, .int .i64 t4, .int .i64 t5, .int .i64 t6, .int .i64 t7, .bool t8, .bool t9, .bool t10, .int .i64 t11, .int .i64 t12]) = xv (Value.int .i8) t1 [.int .i64 t2, .int .i64 t3, .int .i64 t4, .int .i64 t5, .int .i64 t6, .int .i64 t7, .bool t8, .bool t9, .bool t10, .int .i64 t11, .int .i64 t12] from rfl, xv_size, show t1.length = 64 from LN_t1.out]; rfl) (xv_le zL_len 75 rfl) (xv_one (fun _ => rfl) (by intro v_ hv_; simp at hv_; rcases hv_ with rfl | rfl | rfl | rfl | rfl | rfl | rfl | rfl | rfl | rfl | rfl <;> rfl)) (xv_put zL_len LN_t1.out rfl) rfl _ _ rfl rfl rfl ?_; intro w37 ho_ hB_; replace HL := hid (ho_.below HL.out GEb15.out); replace BKb15 := hid hB_; clear ho_ hB_)
     | ((with_reducible refine gate_d (N := 12) rfl ?_); refine ag_fix (.pointer (some ⟨gb15, 0, none⟩)) (ex_field 31 0 (.pointer (some ⟨gb15, 0, none⟩)) (.pointer (some ⟨gb15, 0, none⟩)) (fa31_0_0 gb15) _ rfl rfl) rfl ?_)
     | ((with_reducible refine gate_d (N := 13) rfl ?_); refine ag_fix (.pointer (some ⟨gb15, 64, none⟩)) (ex_field 27 1 (.pointer (some ⟨gb15, 0, none⟩)) (.pointer (some ⟨gb15, 64, none⟩)) (fa27_1_0 gb15) _ rfl rfl) rfl ?_)
     | ((with_reducible refine gate_d (N := 14) rfl ?_); refine ag_fix (.int .i64 t2) (ex_get sT3 gb15 (64) (.int .i64 t2) ((xv (Value.int .i8) t1 [.int .i64 t2, .int .i64 t3, .int .i64 t4, .int .i64 t5, .int .i64 t6, .int .i64 t7, .bool t8, .bool t9, .bool t10, .int .i64 t11, .int .i64 t12])) BKb15.out ((xv_cell (n := 64) LN_t1.out 0 64 (by omega)).trans rfl) _ rfl rfl) rfl ?_)
     | ((with_reducible refine gate_d (N := 18) rfl ?_); refine ag_fix (.pointer (some ⟨gb15, 0, none⟩)) (ex_field 31 0 (.pointer (some ⟨gb15, 0, none⟩)) (.pointer (some ⟨gb15, 0, none⟩)) (fa31_0_0 gb15) _ rfl rfl) rfl ?_)
     | ((with_reducible refine gate_d (N := 19) rfl ?_); refine ag_fix (.pointer (some ⟨gb15, 66, none⟩)) (ex_field 27 3 (.pointer (some ⟨gb15, 0, none⟩)) (.pointer (some ⟨gb15, 66, none⟩)) (fa27_3_0 gb15) _ rfl rfl) rfl ?_)
     | ((with_reducible refine gate_d (N := 20) rfl ?_); refine ag_fix (.int .i64 t4) (ex_get sT3 gb15 (66) (.int .i64 t4) ((xv (Value.int .i8) t1 [.int .i64 t2, .int .i64 t3, .int .i64 t4, .int .i64 t5, .int .i64 t6, .int .i64 t7, .bool t8, .bool t9, .bool t10, .int .i64 t11, .int .i64 t12])) BKb15.out ((xv_cell (n := 64) LN_t1.out 2 66 (by omega)).trans rfl) _ rfl rfl) rfl ?_))
    (try simp only [Act.put, sI, sZ, sS])
    go_ret
    exact ⟨by first | rfl | (simp; done) | (simp [*]; done), HL.out⟩
  ·
   rw [if_neg c18] at H
   have c18b0 : (t2 == 0) = false := beq_eq_false_iff_ne.mpr c18
   have c18b1 : (t2 != 0) = true := bne_iff_ne.mpr c18
   have hc18 := hid c18
   clear c18
   obtain rfl := Option.some.inj H
   clear H
   go_enter Try.func4, Try.ntmps4
   have k38 := True.intro
   go_wp2_with (first
    | (go_at_call 5; clear k38; refine (i_task_Read.calls k (⟨#[98, 101, 103, 105, 110, 10, 102, 111, 114, 115, 121, 116, 104, 32, 56, 47, 56, 47, 56, 47, 56, 47, 56, 47, 49, 75, 54, 47, 56, 47, 107, 54, 82, 10, 115, 116, 105, 112, 32, 35, 49, 10, 101, 110, 100, 10]⟩ : ByteArray) t1 t2 t3 t4 t5 t6 t7 t8 t9 t10 t11 t12 t13 t14 _ A16.out).mono ?_; rintro e_ w39 ⟨rfl, ln_t1, hb_⟩; have LN_t1 := hid ln_t1; clear ln_t1; replace HL := hid (HL.out.trans (hb_.mono HL.out.size)); clear hb_)
    | ((with_reducible refine gate_d (N := 1) rfl ?_); obtain ⟨gb15, hgb15⟩ : ∃ g_, w39.heap.size = g_ := ⟨_, rfl⟩; refine ag_alloc aT31 gb15 hgb15 rfl rfl ?_; intro w40 hb_ hB_ hs_; have GEb15 : Hid (w.heap.size ≤ gb15) := hid (by have := HL.out.size; omega); replace HL := hid (HL.out.trans (hb_.mono GEb15.out)); have BKb15 := hid hB_; clear hb_ hB_ hs_ hgb15)
    | ((with_reducible refine gate_s (t := 31) (p := 1) rfl ?_); refine ag_store aT31 gb15 0 (xv (Value.int .i8) zL [.int .i64 0, .int .i64 0, .int .i64 0, .int .i64 0, .int .i64 0, .int .i64 0, .bool false, .bool false, .bool false, .int .i64 0, .int .i64 0]) (xv (Value.int .i8) t1 [.int .i64 t2, .int .i64 t3, .int .i64 t4, .int .i64 t5, .int .i64 t6, .int .i64 t7, .bool t8, .bool t9, .bool t10, .int .i64 t11, .int .i64 t12]) (xv (Value.int .i8) t1 [.int .i64 t2, .int .i64 t3, .int .i64 t4, .int .i64 t5, .int .i64 t6, .int .i64 t7, .bool t8, .bool t9, .bool t10, .int .i64 t11, .int .i64 t12]) BKb15.out (by rw [show (xv (Value.int .i8) t1 [.int .i64 t2, .int .i64 t3, .int .i64 t4, .int .i64 t5, .int .i64 t6, .int .i64 t7, .bool t8, .bool t9, .bool t10, .int .i64 t11, .int .i64 t12]) = xv (Value.int .i8) t1 [.int .i64 t2, .int .i64 t3, .int .i64 t4, .int .i64 t5, .int .i64 t6, .int .i64 t7, .bool t8, .bool t9, .bool t10, .int .i64 t11, .int .i64 t12] from rfl, xv_size, show t1.length = 64 from LN_t1.out]; rfl) (xv_le zL_len 75 rfl) (xv_one (fun _ => rfl) (by intro v_ hv_; simp at hv_; rcases hv_ with rfl | rfl | rfl | rfl | rfl | rfl | rfl | rfl | rfl | rfl | rfl <;> rfl)) (xv_put zL_len LN_t1.out rfl) rfl _ _ rfl rfl rfl ?_; intro w41 ho_ hB_; replace HL := hid (ho_.below HL.out GEb15.out); replace BKb15 := hid hB_; clear ho_ hB_)
    | ((with_reducible refine gate_d (N := 12) rfl ?_); refine ag_fix (.pointer (some ⟨gb15, 0, none⟩)) (ex_field 31 0 (.pointer (some ⟨gb15, 0, none⟩)) (.pointer (some ⟨gb15, 0, none⟩)) (fa31_0_0 gb15) _ rfl rfl) rfl ?_)
    | ((with_reducible refine gate_d (N := 13) rfl ?_); refine ag_fix (.pointer (some ⟨gb15, 64, none⟩)) (ex_field 27 1 (.pointer (some ⟨gb15, 0, none⟩)) (.pointer (some ⟨gb15, 64, none⟩)) (fa27_1_0 gb15) _ rfl rfl) rfl ?_)
    | ((with_reducible refine gate_d (N := 14) rfl ?_); refine ag_fix (.int .i64 t2) (ex_get sT3 gb15 (64) (.int .i64 t2) ((xv (Value.int .i8) t1 [.int .i64 t2, .int .i64 t3, .int .i64 t4, .int .i64 t5, .int .i64 t6, .int .i64 t7, .bool t8, .bool t9, .bool t10, .int .i64 t11, .int .i64 t12])) BKb15.out ((xv_cell (n := 64) LN_t1.out 0 64 (by omega)).trans rfl) _ rfl rfl) rfl ?_))
   (try simp only [Act.put, sI, sZ, sS])
   go_ret
   exact ⟨by first | rfl | (simp; done) | (simp [*]; done), HL.out⟩
 ·
  rw [if_neg c17] at H
  have c17b0 : (t14 == 0) = false := beq_eq_false_iff_ne.mpr c17
  have c17b1 : (t14 != 0) = true := bne_iff_ne.mpr c17
  have hc17 := hid c17
  clear c17
  obtain rfl := Option.some.inj H
  clear H
  go_enter Try.func4, Try.ntmps4
  have k42 := True.intro
  go_wp2_with (first
   | (go_at_call 5; clear k42; refine (i_task_Read.calls k (⟨#[98, 101, 103, 105, 110, 10, 102, 111, 114, 115, 121, 116, 104, 32, 56, 47, 56, 47, 56, 47, 56, 47, 56, 47, 49, 75, 54, 47, 56, 47, 107, 54, 82, 10, 115, 116, 105, 112, 32, 35, 49, 10, 101, 110, 100, 10]⟩ : ByteArray) t1 t2 t3 t4 t5 t6 t7 t8 t9 t10 t11 t12 t13 t14 _ A16.out).mono ?_; rintro e_ w43 ⟨rfl, ln_t1, hb_⟩; have LN_t1 := hid ln_t1; clear ln_t1; replace HL := hid (HL.out.trans (hb_.mono HL.out.size)); clear hb_)
   | ((with_reducible refine gate_d (N := 1) rfl ?_); obtain ⟨gb15, hgb15⟩ : ∃ g_, w43.heap.size = g_ := ⟨_, rfl⟩; refine ag_alloc aT31 gb15 hgb15 rfl rfl ?_; intro w44 hb_ hB_ hs_; have GEb15 : Hid (w.heap.size ≤ gb15) := hid (by have := HL.out.size; omega); replace HL := hid (HL.out.trans (hb_.mono GEb15.out)); have BKb15 := hid hB_; clear hb_ hB_ hs_ hgb15)
   | ((with_reducible refine gate_s (t := 31) (p := 1) rfl ?_); refine ag_store aT31 gb15 0 (xv (Value.int .i8) zL [.int .i64 0, .int .i64 0, .int .i64 0, .int .i64 0, .int .i64 0, .int .i64 0, .bool false, .bool false, .bool false, .int .i64 0, .int .i64 0]) (xv (Value.int .i8) t1 [.int .i64 t2, .int .i64 t3, .int .i64 t4, .int .i64 t5, .int .i64 t6, .int .i64 t7, .bool t8, .bool t9, .bool t10, .int .i64 t11, .int .i64 t12]) (xv (Value.int .i8) t1 [.int .i64 t2, .int .i64 t3, .int .i64 t4, .int .i64 t5, .int .i64 t6, .int .i64 t7, .bool t8, .bool t9, .bool t10, .int .i64 t11, .int .i64 t12]) BKb15.out (by rw [show (xv (Value.int .i8) t1 [.int .i64 t2, .int .i64 t3, .int .i64 t4, .int .i64 t5, .int .i64 t6, .int .i64 t7, .bool t8, .bool t9, .bool t10, .int .i64 t11, .int .i64 t12]) = xv (Value.int .i8) t1 [.int .i64 t2, .int .i64 t3, .int .i64 t4, .int .i64 t5, .int .i64 t6, .int .i64 t7, .bool t8, .bool t9, .bool t10, .int .i64 t11, .int .i64 t12] from rfl, xv_size, show t1.length = 64 from LN_t1.out]; rfl) (xv_le zL_len 75 rfl) (xv_one (fun _ => rfl) (by intro v_ hv_; simp at hv_; rcases hv_ with rfl | rfl | rfl | rfl | rfl | rfl | rfl | rfl | rfl | rfl | rfl <;> rfl)) (xv_put zL_len LN_t1.out rfl) rfl _ _ rfl rfl rfl ?_; intro w45 ho_ hB_; replace HL := hid (ho_.below HL.out GEb15.out); replace BKb15 := hid hB_; clear ho_ hB_))
  (try simp only [Act.put, sI, sZ, sS])
  go_ret
  exact ⟨by first | rfl | (simp; done) | (simp [*]; done), HL.out⟩
def i_alfillaw16_TaskWrong.f (k : Nat) (a0 : ByteArray) (a1 : ByteArray) : Option (Bool) := (i_alfillaw16_wakes.f k).bind fun t1 => (if t1 = true then (if (a0.size : Int) > 300 then (some true) else (if (a1.size : Int) > 100 then (some true) else ((i_task_Read.f k a0).bind fun bt2 => (if a0.size + a1.size ≤ 9223372036854775807 then ((i_task_Read.f k (a0 ++ a1)).bind fun bt17 => (if bt2.2.2.2.2.2.2.2.2.2.2.2.2.2 = 2 then (if bt17.2.2.2.2.2.2.2.2.2.2.2.2.2 = 2 then (some (bt17.2.2.2.2.2.2.2.2.2.2.2.2.1 == bt2.2.2.2.2.2.2.2.2.2.2.2.2.1)) else (some false)) else (if bt2.2.2.2.2.2.2.2.2.2.2.2.2.2 = 1 then (if bt2.2.2.2.2.2.2.2.2.2.2.2.2.1 = (a0.size : Int) then (some (decide (bt17.2.2.2.2.2.2.2.2.2.2.2.2.1 ≥ bt2.2.2.2.2.2.2.2.2.2.2.2.2.1))) else (some false)) else (if bt2.2.2.2.2.2.2.2.2.2.2.2.2.2 = 0 then (if a1.toList = ([] : List UInt8) then (if bt17.2.2.2.2.2.2.2.2.2.2.2.2.2 = 0 then (some true) else (if bt17.2.2.2.2.2.2.2.2.2.2.2.2.2 = 2 then (some (bt17.2.2.2.2.2.2.2.2.2.2.2.2.1 == bt2.2.2.2.2.2.2.2.2.2.2.2.2.1)) else (some false))) else (if bt17.2.2.2.2.2.2.2.2.2.2.2.2.2 = 2 then (some (bt17.2.2.2.2.2.2.2.2.2.2.2.2.1 == bt2.2.2.2.2.2.2.2.2.2.2.2.2.1)) else (some false))) else (some false))))) else (none))))) else (some false))
set_option maxHeartbeats 40000000 in
set_option maxRecDepth 100000 in
theorem i_alfillaw16_TaskWrong.calls (k : Nat) (a0 : ByteArray) (a1 : ByteArray) (r1 : Bool) (w : World) (h : i_alfillaw16_TaskWrong.f k a0 a1 = some r1) :
    Calls Try.prog 3 #[.string a0, .string a1] w fun e w' => e = .returned (.bool r1) ∧ Below w.heap.size w w' := by
 have HL := hid (Below.refl w.heap.size w)
 have H : ((i_alfillaw16_wakes.f k).bind fun t1 => (if t1 = true then (if (a0.size : Int) > 300 then (some true) else (if (a1.size : Int) > 100 then (some true) else ((i_task_Read.f k a0).bind fun bt2 => (if a0.size + a1.size ≤ 9223372036854775807 then ((i_task_Read.f k (a0 ++ a1)).bind fun bt17 => (if bt2.2.2.2.2.2.2.2.2.2.2.2.2.2 = 2 then (if bt17.2.2.2.2.2.2.2.2.2.2.2.2.2 = 2 then (some (bt17.2.2.2.2.2.2.2.2.2.2.2.2.1 == bt2.2.2.2.2.2.2.2.2.2.2.2.2.1)) else (some false)) else (if bt2.2.2.2.2.2.2.2.2.2.2.2.2.2 = 1 then (if bt2.2.2.2.2.2.2.2.2.2.2.2.2.1 = (a0.size : Int) then (some (decide (bt17.2.2.2.2.2.2.2.2.2.2.2.2.1 ≥ bt2.2.2.2.2.2.2.2.2.2.2.2.2.1))) else (some false)) else (if bt2.2.2.2.2.2.2.2.2.2.2.2.2.2 = 0 then (if a1.toList = ([] : List UInt8) then (if bt17.2.2.2.2.2.2.2.2.2.2.2.2.2 = 0 then (some true) else (if bt17.2.2.2.2.2.2.2.2.2.2.2.2.2 = 2 then (some (bt17.2.2.2.2.2.2.2.2.2.2.2.2.1 == bt2.2.2.2.2.2.2.2.2.2.2.2.2.1)) else (some false))) else (if bt17.2.2.2.2.2.2.2.2.2.2.2.2.2 = 2 then (some (bt17.2.2.2.2.2.2.2.2.2.2.2.2.1 == bt2.2.2.2.2.2.2.2.2.2.2.2.2.1)) else (some false))) else (some false))))) else (none))))) else (some false))) = some r1 := h
 clear h
 replace H := Option.bind_eq_some_iff.mp H
 obtain ⟨t1, A32_, H⟩ := H
 have A32 := hid A32_
 clear A32_
 cases t1 with
 | true =>
  rw [if_pos rfl] at H
  by_cases c34 : (a0.size : Int) > 300
  ·
   rw [if_pos c34] at H
   have c34b0 : decide (300 < (a0.size : Int)) = true := decide_eq_true c34
   have c34b1 : decide (300 < a0.size) = true := decide_eq_true (by omega)
   have hc34 := hid c34
   clear c34
   obtain rfl := Option.some.inj H
   clear H
   go_enter Try.func3, Try.ntmps3
   have k35 := True.intro
   go_wp2_with (first
    | (go_at_call 4; clear k35; refine (i_alfillaw16_wakes.calls k true _ A32.out).mono ?_; rintro e_ w36 ⟨rfl, hb_⟩; replace HL := hid (HL.out.trans (hb_.mono HL.out.size)); clear hb_))
   (try simp only [Act.put, sI, sZ, sS])
   go_ret
   exact ⟨by first | rfl | (simp; done) | (simp [*]; done), HL.out⟩
  ·
   rw [if_neg c34] at H
   have c34b0 : decide (300 < (a0.size : Int)) = false := decide_eq_false c34
   have c34b1 : decide (300 < a0.size) = false := decide_eq_false (by omega)
   have hc34 := hid c34
   clear c34
   by_cases c37 : (a1.size : Int) > 100
   ·
    rw [if_pos c37] at H
    have c37b0 : decide (100 < (a1.size : Int)) = true := decide_eq_true c37
    have c37b1 : decide (100 < a1.size) = true := decide_eq_true (by omega)
    have hc37 := hid c37
    clear c37
    obtain rfl := Option.some.inj H
    clear H
    go_enter Try.func3, Try.ntmps3
    have k38 := True.intro
    go_wp2_with (first
     | (go_at_call 4; clear k38; refine (i_alfillaw16_wakes.calls k true _ A32.out).mono ?_; rintro e_ w39 ⟨rfl, hb_⟩; replace HL := hid (HL.out.trans (hb_.mono HL.out.size)); clear hb_))
    (try simp only [Act.put, sI, sZ, sS])
    go_ret
    exact ⟨by first | rfl | (simp; done) | (simp [*]; done), HL.out⟩
   ·
    rw [if_neg c37] at H
    have c37b0 : decide (100 < (a1.size : Int)) = false := decide_eq_false c37
    have c37b1 : decide (100 < a1.size) = false := decide_eq_false (by omega)
    have hc37 := hid c37
    clear c37
    have H' := hid H
    clear H
    go_enter Try.func3, Try.ntmps3
    have k41 := True.intro
    go_wp2_with (first
     | (go_at_call 4; clear k41; refine (i_alfillaw16_wakes.calls k true _ A32.out).mono ?_; rintro e_ w42 ⟨rfl, hb_⟩; replace HL := hid (HL.out.trans (hb_.mono HL.out.size)); clear hb_))
    (try simp only [Act.put, sI, sZ, sS])
    have H := H'.out
    clear H'
    replace H := Option.bind_eq_some_iff.mp H
    obtain ⟨⟨t2, t3, t4, t5, t6, t7, t8, t9, t10, t11, t12, t13, t14, t15⟩, A40_, H⟩ := H
    dsimp only at H
    have A40 := hid A40_
    clear A40_
    by_cases c43 : a0.size + a1.size ≤ 9223372036854775807
    ·
     rw [if_pos c43] at H
     have hc43 := hid c43
     clear c43
     have H' := hid H
     clear H
     have k45 := True.intro
     go_wp2_with (first
      | (go_at_call 5; clear k45; refine (i_task_Read.calls k a0 t2 t3 t4 t5 t6 t7 t8 t9 t10 t11 t12 t13 t14 t15 _ A40.out).mono ?_; rintro e_ w46 ⟨rfl, ln_t2, hb_⟩; have LN_t2 := hid ln_t2; clear ln_t2; replace HL := hid (HL.out.trans (hb_.mono HL.out.size)); clear hb_)
      | ((with_reducible refine gate_d (N := 5) rfl ?_); obtain ⟨gb16, hgb16⟩ : ∃ g_, w46.heap.size = g_ := ⟨_, rfl⟩; refine ag_alloc aT31 gb16 hgb16 rfl rfl ?_; intro w47 hb_ hB_ hs_; have GEb16 : Hid (w.heap.size ≤ gb16) := hid (by have := HL.out.size; omega); replace HL := hid (HL.out.trans (hb_.mono GEb16.out)); have BKb16 := hid hB_; clear hb_ hB_ hs_ hgb16)
      | ((with_reducible refine gate_s (t := 31) (p := 5) rfl ?_); refine ag_store aT31 gb16 0 (xv (Value.int .i8) zL [.int .i64 0, .int .i64 0, .int .i64 0, .int .i64 0, .int .i64 0, .int .i64 0, .bool false, .bool false, .bool false, .int .i64 0, .int .i64 0]) (xv (Value.int .i8) t2 [.int .i64 t3, .int .i64 t4, .int .i64 t5, .int .i64 t6, .int .i64 t7, .int .i64 t8, .bool t9, .bool t10, .bool t11, .int .i64 t12, .int .i64 t13]) (xv (Value.int .i8) t2 [.int .i64 t3, .int .i64 t4, .int .i64 t5, .int .i64 t6, .int .i64 t7, .int .i64 t8, .bool t9, .bool t10, .bool t11, .int .i64 t12, .int .i64 t13]) BKb16.out (by rw [show (xv (Value.int .i8) t2 [.int .i64 t3, .int .i64 t4, .int .i64 t5, .int .i64 t6, .int .i64 t7, .int .i64 t8, .bool t9, .bool t10, .bool t11, .int .i64 t12, .int .i64 t13]) = xv (Value.int .i8) t2 [.int .i64 t3, .int .i64 t4, .int .i64 t5, .int .i64 t6, .int .i64 t7, .int .i64 t8, .bool t9, .bool t10, .bool t11, .int .i64 t12, .int .i64 t13] from rfl, xv_size, show t2.length = 64 from LN_t2.out]; rfl) (xv_le zL_len 75 rfl) (xv_one (fun _ => rfl) (by intro v_ hv_; simp at hv_; rcases hv_ with rfl | rfl | rfl | rfl | rfl | rfl | rfl | rfl | rfl | rfl | rfl <;> rfl)) (xv_put zL_len LN_t2.out rfl) rfl _ _ rfl rfl rfl ?_; intro w48 ho_ hB_; replace HL := hid (ho_.below HL.out GEb16.out); replace BKb16 := hid hB_; clear ho_ hB_)
      | ((with_reducible refine gate_d (N := 30) rfl ?_); refine ag_fix (.string (a0 ++ a1)) (ex_cat 9 a0 a1 hc43.out _ _ _ rfl rfl rfl) rfl ?_))
     (try simp only [Act.put, sI, sZ, sS])
     have H := H'.out
     clear H'
     replace H := Option.bind_eq_some_iff.mp H
     obtain ⟨⟨t17, t18, t19, t20, t21, t22, t23, t24, t25, t26, t27, t28, t29, t30⟩, A44_, H⟩ := H
     dsimp only at H
     have A44 := hid A44_
     clear A44_
     by_cases c49 : t15 = 2
     ·
      rw [if_pos c49] at H
      have c49b0 : (t15 == 2) = true := beq_iff_eq.mpr c49
      have c49b1 : (t15 != 2) = false := bne_eq_false_iff_eq.mpr c49
      have hc49 := hid c49
      clear c49
      by_cases c50 : t30 = 2
      ·
       rw [if_pos c50] at H
       have c50b0 : (t30 == 2) = true := beq_iff_eq.mpr c50
       have c50b1 : (t30 != 2) = false := bne_eq_false_iff_eq.mpr c50
       have hc50 := hid c50
       clear c50
       obtain rfl := Option.some.inj H
       clear H
       have k51 := True.intro
       go_wp2_with (first
        | (go_at_call 5; clear k51; refine (i_task_Read.calls k (a0 ++ a1) t17 t18 t19 t20 t21 t22 t23 t24 t25 t26 t27 t28 t29 t30 _ A44.out).mono ?_; rintro e_ w52 ⟨rfl, ln_t17, hb_⟩; have LN_t17 := hid ln_t17; clear ln_t17; replace BKb16 := hid (BKb16.out.below hb_ BKb16.out.lt); replace HL := hid (HL.out.trans (hb_.mono HL.out.size)); clear hb_)
        | ((with_reducible refine gate_d (N := 8) rfl ?_); obtain ⟨gb31, hgb31⟩ : ∃ g_, w52.heap.size = g_ := ⟨_, rfl⟩; refine ag_alloc aT31 gb31 hgb31 rfl rfl ?_; intro w53 hb_ hB_ hs_; have GEb31 : Hid (w.heap.size ≤ gb31) := hid (by have := HL.out.size; omega); have NBb16_b31 : Hid (gb16 ≠ gb31) := hid (by have := BKb16.out.lt; omega); have NBb31_b16 : Hid (gb31 ≠ gb16) := hid (by have := NBb16_b31.out; omega); replace BKb16 := hid (BKb16.out.below hb_ (by rw [← hgb31]; exact BKb16.out.lt)); replace HL := hid (HL.out.trans (hb_.mono GEb31.out)); have BKb31 := hid hB_; clear hb_ hB_ hs_ hgb31)
        | ((with_reducible refine gate_s (t := 31) (p := 8) rfl ?_); refine ag_store aT31 gb31 0 (xv (Value.int .i8) zL [.int .i64 0, .int .i64 0, .int .i64 0, .int .i64 0, .int .i64 0, .int .i64 0, .bool false, .bool false, .bool false, .int .i64 0, .int .i64 0]) (xv (Value.int .i8) t17 [.int .i64 t18, .int .i64 t19, .int .i64 t20, .int .i64 t21, .int .i64 t22, .int .i64 t23, .bool t24, .bool t25, .bool t26, .int .i64 t27, .int .i64 t28]) (xv (Value.int .i8) t17 [.int .i64 t18, .int .i64 t19, .int .i64 t20, .int .i64 t21, .int .i64 t22, .int .i64 t23, .bool t24, .bool t25, .bool t26, .int .i64 t27, .int .i64 t28]) BKb31.out (by rw [show (xv (Value.int .i8) t17 [.int .i64 t18, .int .i64 t19, .int .i64 t20, .int .i64 t21, .int .i64 t22, .int .i64 t23, .bool t24, .bool t25, .bool t26, .int .i64 t27, .int .i64 t28]) = xv (Value.int .i8) t17 [.int .i64 t18, .int .i64 t19, .int .i64 t20, .int .i64 t21, .int .i64 t22, .int .i64 t23, .bool t24, .bool t25, .bool t26, .int .i64 t27, .int .i64 t28] from rfl, xv_size, show t17.length = 64 from LN_t17.out]; rfl) (xv_le zL_len 75 rfl) (xv_one (fun _ => rfl) (by intro v_ hv_; simp at hv_; rcases hv_ with rfl | rfl | rfl | rfl | rfl | rfl | rfl | rfl | rfl | rfl | rfl <;> rfl)) (xv_put zL_len LN_t17.out rfl) rfl _ _ rfl rfl rfl ?_; intro w54 ho_ hB_; replace BKb16 := hid (BKb16.out.off ho_ NBb16_b31.out); replace HL := hid (ho_.below HL.out GEb31.out); replace BKb31 := hid hB_; clear ho_ hB_))
       (try simp only [Act.put, sI, sZ, sS])
       go_ret
       exact ⟨by first | rfl | (simp; done) | (simp [*]; done), HL.out⟩
      ·
       rw [if_neg c50] at H
       have c50b0 : (t30 == 2) = false := beq_eq_false_iff_ne.mpr c50
       have c50b1 : (t30 != 2) = true := bne_iff_ne.mpr c50
       have hc50 := hid c50
       clear c50
       obtain rfl := Option.some.inj H
       clear H
       have k55 := True.intro
       go_wp2_with (first
        | (go_at_call 5; clear k55; refine (i_task_Read.calls k (a0 ++ a1) t17 t18 t19 t20 t21 t22 t23 t24 t25 t26 t27 t28 t29 t30 _ A44.out).mono ?_; rintro e_ w56 ⟨rfl, ln_t17, hb_⟩; have LN_t17 := hid ln_t17; clear ln_t17; replace BKb16 := hid (BKb16.out.below hb_ BKb16.out.lt); replace HL := hid (HL.out.trans (hb_.mono HL.out.size)); clear hb_)
        | ((with_reducible refine gate_d (N := 8) rfl ?_); obtain ⟨gb31, hgb31⟩ : ∃ g_, w56.heap.size = g_ := ⟨_, rfl⟩; refine ag_alloc aT31 gb31 hgb31 rfl rfl ?_; intro w57 hb_ hB_ hs_; have GEb31 : Hid (w.heap.size ≤ gb31) := hid (by have := HL.out.size; omega); have NBb16_b31 : Hid (gb16 ≠ gb31) := hid (by have := BKb16.out.lt; omega); have NBb31_b16 : Hid (gb31 ≠ gb16) := hid (by have := NBb16_b31.out; omega); replace BKb16 := hid (BKb16.out.below hb_ (by rw [← hgb31]; exact BKb16.out.lt)); replace HL := hid (HL.out.trans (hb_.mono GEb31.out)); have BKb31 := hid hB_; clear hb_ hB_ hs_ hgb31)
        | ((with_reducible refine gate_s (t := 31) (p := 8) rfl ?_); refine ag_store aT31 gb31 0 (xv (Value.int .i8) zL [.int .i64 0, .int .i64 0, .int .i64 0, .int .i64 0, .int .i64 0, .int .i64 0, .bool false, .bool false, .bool false, .int .i64 0, .int .i64 0]) (xv (Value.int .i8) t17 [.int .i64 t18, .int .i64 t19, .int .i64 t20, .int .i64 t21, .int .i64 t22, .int .i64 t23, .bool t24, .bool t25, .bool t26, .int .i64 t27, .int .i64 t28]) (xv (Value.int .i8) t17 [.int .i64 t18, .int .i64 t19, .int .i64 t20, .int .i64 t21, .int .i64 t22, .int .i64 t23, .bool t24, .bool t25, .bool t26, .int .i64 t27, .int .i64 t28]) BKb31.out (by rw [show (xv (Value.int .i8) t17 [.int .i64 t18, .int .i64 t19, .int .i64 t20, .int .i64 t21, .int .i64 t22, .int .i64 t23, .bool t24, .bool t25, .bool t26, .int .i64 t27, .int .i64 t28]) = xv (Value.int .i8) t17 [.int .i64 t18, .int .i64 t19, .int .i64 t20, .int .i64 t21, .int .i64 t22, .int .i64 t23, .bool t24, .bool t25, .bool t26, .int .i64 t27, .int .i64 t28] from rfl, xv_size, show t17.length = 64 from LN_t17.out]; rfl) (xv_le zL_len 75 rfl) (xv_one (fun _ => rfl) (by intro v_ hv_; simp at hv_; rcases hv_ with rfl | rfl | rfl | rfl | rfl | rfl | rfl | rfl | rfl | rfl | rfl <;> rfl)) (xv_put zL_len LN_t17.out rfl) rfl _ _ rfl rfl rfl ?_; intro w58 ho_ hB_; replace BKb16 := hid (BKb16.out.off ho_ NBb16_b31.out); replace HL := hid (ho_.below HL.out GEb31.out); replace BKb31 := hid hB_; clear ho_ hB_))
       (try simp only [Act.put, sI, sZ, sS])
       go_ret
       exact ⟨by first | rfl | (simp; done) | (simp [*]; done), HL.out⟩
     ·
      rw [if_neg c49] at H
      have c49b0 : (t15 == 2) = false := beq_eq_false_iff_ne.mpr c49
      have c49b1 : (t15 != 2) = true := bne_iff_ne.mpr c49
      have hc49 := hid c49
      clear c49
      by_cases c59 : t15 = 1
      ·
       rw [if_pos c59] at H
       have c59b0 : (t15 == 1) = true := beq_iff_eq.mpr c59
       have c59b1 : (t15 != 1) = false := bne_eq_false_iff_eq.mpr c59
       have hc59 := hid c59
       clear c59
       by_cases c60 : t14 = (a0.size : Int)
       ·
        rw [if_pos c60] at H
        have c60b0 : (t14 == (a0.size : Int)) = true := beq_iff_eq.mpr c60
        have c60b1 : (t14 != (a0.size : Int)) = false := bne_eq_false_iff_eq.mpr c60
        have hc60 := hid c60
        clear c60
        obtain rfl := Option.some.inj H
        clear H
        have k61 := True.intro
        go_wp2_with (first
         | (go_at_call 5; clear k61; refine (i_task_Read.calls k (a0 ++ a1) t17 t18 t19 t20 t21 t22 t23 t24 t25 t26 t27 t28 t29 t30 _ A44.out).mono ?_; rintro e_ w62 ⟨rfl, ln_t17, hb_⟩; have LN_t17 := hid ln_t17; clear ln_t17; replace BKb16 := hid (BKb16.out.below hb_ BKb16.out.lt); replace HL := hid (HL.out.trans (hb_.mono HL.out.size)); clear hb_)
         | ((with_reducible refine gate_d (N := 8) rfl ?_); obtain ⟨gb31, hgb31⟩ : ∃ g_, w62.heap.size = g_ := ⟨_, rfl⟩; refine ag_alloc aT31 gb31 hgb31 rfl rfl ?_; intro w63 hb_ hB_ hs_; have GEb31 : Hid (w.heap.size ≤ gb31) := hid (by have := HL.out.size; omega); have NBb16_b31 : Hid (gb16 ≠ gb31) := hid (by have := BKb16.out.lt; omega); have NBb31_b16 : Hid (gb31 ≠ gb16) := hid (by have := NBb16_b31.out; omega); replace BKb16 := hid (BKb16.out.below hb_ (by rw [← hgb31]; exact BKb16.out.lt)); replace HL := hid (HL.out.trans (hb_.mono GEb31.out)); have BKb31 := hid hB_; clear hb_ hB_ hs_ hgb31)
         | ((with_reducible refine gate_s (t := 31) (p := 8) rfl ?_); refine ag_store aT31 gb31 0 (xv (Value.int .i8) zL [.int .i64 0, .int .i64 0, .int .i64 0, .int .i64 0, .int .i64 0, .int .i64 0, .bool false, .bool false, .bool false, .int .i64 0, .int .i64 0]) (xv (Value.int .i8) t17 [.int .i64 t18, .int .i64 t19, .int .i64 t20, .int .i64 t21, .int .i64 t22, .int .i64 t23, .bool t24, .bool t25, .bool t26, .int .i64 t27, .int .i64 t28]) (xv (Value.int .i8) t17 [.int .i64 t18, .int .i64 t19, .int .i64 t20, .int .i64 t21, .int .i64 t22, .int .i64 t23, .bool t24, .bool t25, .bool t26, .int .i64 t27, .int .i64 t28]) BKb31.out (by rw [show (xv (Value.int .i8) t17 [.int .i64 t18, .int .i64 t19, .int .i64 t20, .int .i64 t21, .int .i64 t22, .int .i64 t23, .bool t24, .bool t25, .bool t26, .int .i64 t27, .int .i64 t28]) = xv (Value.int .i8) t17 [.int .i64 t18, .int .i64 t19, .int .i64 t20, .int .i64 t21, .int .i64 t22, .int .i64 t23, .bool t24, .bool t25, .bool t26, .int .i64 t27, .int .i64 t28] from rfl, xv_size, show t17.length = 64 from LN_t17.out]; rfl) (xv_le zL_len 75 rfl) (xv_one (fun _ => rfl) (by intro v_ hv_; simp at hv_; rcases hv_ with rfl | rfl | rfl | rfl | rfl | rfl | rfl | rfl | rfl | rfl | rfl <;> rfl)) (xv_put zL_len LN_t17.out rfl) rfl _ _ rfl rfl rfl ?_; intro w64 ho_ hB_; replace BKb16 := hid (BKb16.out.off ho_ NBb16_b31.out); replace HL := hid (ho_.below HL.out GEb31.out); replace BKb31 := hid hB_; clear ho_ hB_))
        (try simp only [Act.put, sI, sZ, sS])
        go_ret
        exact ⟨by first | rfl | (simp; done) | (simp [*]; done), HL.out⟩
       ·
        rw [if_neg c60] at H
        have c60b0 : (t14 == (a0.size : Int)) = false := beq_eq_false_iff_ne.mpr c60
        have c60b1 : (t14 != (a0.size : Int)) = true := bne_iff_ne.mpr c60
        have hc60 := hid c60
        clear c60
        obtain rfl := Option.some.inj H
        clear H
        have k65 := True.intro
        go_wp2_with (first
         | (go_at_call 5; clear k65; refine (i_task_Read.calls k (a0 ++ a1) t17 t18 t19 t20 t21 t22 t23 t24 t25 t26 t27 t28 t29 t30 _ A44.out).mono ?_; rintro e_ w66 ⟨rfl, ln_t17, hb_⟩; have LN_t17 := hid ln_t17; clear ln_t17; replace BKb16 := hid (BKb16.out.below hb_ BKb16.out.lt); replace HL := hid (HL.out.trans (hb_.mono HL.out.size)); clear hb_)
         | ((with_reducible refine gate_d (N := 8) rfl ?_); obtain ⟨gb31, hgb31⟩ : ∃ g_, w66.heap.size = g_ := ⟨_, rfl⟩; refine ag_alloc aT31 gb31 hgb31 rfl rfl ?_; intro w67 hb_ hB_ hs_; have GEb31 : Hid (w.heap.size ≤ gb31) := hid (by have := HL.out.size; omega); have NBb16_b31 : Hid (gb16 ≠ gb31) := hid (by have := BKb16.out.lt; omega); have NBb31_b16 : Hid (gb31 ≠ gb16) := hid (by have := NBb16_b31.out; omega); replace BKb16 := hid (BKb16.out.below hb_ (by rw [← hgb31]; exact BKb16.out.lt)); replace HL := hid (HL.out.trans (hb_.mono GEb31.out)); have BKb31 := hid hB_; clear hb_ hB_ hs_ hgb31)
         | ((with_reducible refine gate_s (t := 31) (p := 8) rfl ?_); refine ag_store aT31 gb31 0 (xv (Value.int .i8) zL [.int .i64 0, .int .i64 0, .int .i64 0, .int .i64 0, .int .i64 0, .int .i64 0, .bool false, .bool false, .bool false, .int .i64 0, .int .i64 0]) (xv (Value.int .i8) t17 [.int .i64 t18, .int .i64 t19, .int .i64 t20, .int .i64 t21, .int .i64 t22, .int .i64 t23, .bool t24, .bool t25, .bool t26, .int .i64 t27, .int .i64 t28]) (xv (Value.int .i8) t17 [.int .i64 t18, .int .i64 t19, .int .i64 t20, .int .i64 t21, .int .i64 t22, .int .i64 t23, .bool t24, .bool t25, .bool t26, .int .i64 t27, .int .i64 t28]) BKb31.out (by rw [show (xv (Value.int .i8) t17 [.int .i64 t18, .int .i64 t19, .int .i64 t20, .int .i64 t21, .int .i64 t22, .int .i64 t23, .bool t24, .bool t25, .bool t26, .int .i64 t27, .int .i64 t28]) = xv (Value.int .i8) t17 [.int .i64 t18, .int .i64 t19, .int .i64 t20, .int .i64 t21, .int .i64 t22, .int .i64 t23, .bool t24, .bool t25, .bool t26, .int .i64 t27, .int .i64 t28] from rfl, xv_size, show t17.length = 64 from LN_t17.out]; rfl) (xv_le zL_len 75 rfl) (xv_one (fun _ => rfl) (by intro v_ hv_; simp at hv_; rcases hv_ with rfl | rfl | rfl | rfl | rfl | rfl | rfl | rfl | rfl | rfl | rfl <;> rfl)) (xv_put zL_len LN_t17.out rfl) rfl _ _ rfl rfl rfl ?_; intro w68 ho_ hB_; replace BKb16 := hid (BKb16.out.off ho_ NBb16_b31.out); replace HL := hid (ho_.below HL.out GEb31.out); replace BKb31 := hid hB_; clear ho_ hB_))
        (try simp only [Act.put, sI, sZ, sS])
        go_ret
        exact ⟨by first | rfl | (simp; done) | (simp [*]; done), HL.out⟩
      ·
       rw [if_neg c59] at H
       have c59b0 : (t15 == 1) = false := beq_eq_false_iff_ne.mpr c59
       have c59b1 : (t15 != 1) = true := bne_iff_ne.mpr c59
       have hc59 := hid c59
       clear c59
       by_cases c69 : t15 = 0
       ·
        rw [if_pos c69] at H
        have c69b0 : (t15 == 0) = true := beq_iff_eq.mpr c69
        have c69b1 : (t15 != 0) = false := bne_eq_false_iff_eq.mpr c69
        have hc69 := hid c69
        clear c69
        by_cases c70 : a1.toList = ([] : List UInt8)
        ·
         rw [if_pos c70] at H
         have c70b0 : (a1.toList == ([] : List UInt8)) = true := beq_iff_eq.mpr c70
         have c70b1 : (a1.toList != ([] : List UInt8)) = false := bne_eq_false_iff_eq.mpr c70
         have hc70 := hid c70
         clear c70
         by_cases c71 : t30 = 0
         ·
          rw [if_pos c71] at H
          have c71b0 : (t30 == 0) = true := beq_iff_eq.mpr c71
          have c71b1 : (t30 != 0) = false := bne_eq_false_iff_eq.mpr c71
          have hc71 := hid c71
          clear c71
          obtain rfl := Option.some.inj H
          clear H
          have k72 := True.intro
          go_wp2_with (first
           | (go_at_call 5; clear k72; refine (i_task_Read.calls k (a0 ++ a1) t17 t18 t19 t20 t21 t22 t23 t24 t25 t26 t27 t28 t29 t30 _ A44.out).mono ?_; rintro e_ w73 ⟨rfl, ln_t17, hb_⟩; have LN_t17 := hid ln_t17; clear ln_t17; replace BKb16 := hid (BKb16.out.below hb_ BKb16.out.lt); replace HL := hid (HL.out.trans (hb_.mono HL.out.size)); clear hb_)
           | ((with_reducible refine gate_d (N := 8) rfl ?_); obtain ⟨gb31, hgb31⟩ : ∃ g_, w73.heap.size = g_ := ⟨_, rfl⟩; refine ag_alloc aT31 gb31 hgb31 rfl rfl ?_; intro w74 hb_ hB_ hs_; have GEb31 : Hid (w.heap.size ≤ gb31) := hid (by have := HL.out.size; omega); have NBb16_b31 : Hid (gb16 ≠ gb31) := hid (by have := BKb16.out.lt; omega); have NBb31_b16 : Hid (gb31 ≠ gb16) := hid (by have := NBb16_b31.out; omega); replace BKb16 := hid (BKb16.out.below hb_ (by rw [← hgb31]; exact BKb16.out.lt)); replace HL := hid (HL.out.trans (hb_.mono GEb31.out)); have BKb31 := hid hB_; clear hb_ hB_ hs_ hgb31)
           | ((with_reducible refine gate_s (t := 31) (p := 8) rfl ?_); refine ag_store aT31 gb31 0 (xv (Value.int .i8) zL [.int .i64 0, .int .i64 0, .int .i64 0, .int .i64 0, .int .i64 0, .int .i64 0, .bool false, .bool false, .bool false, .int .i64 0, .int .i64 0]) (xv (Value.int .i8) t17 [.int .i64 t18, .int .i64 t19, .int .i64 t20, .int .i64 t21, .int .i64 t22, .int .i64 t23, .bool t24, .bool t25, .bool t26, .int .i64 t27, .int .i64 t28]) (xv (Value.int .i8) t17 [.int .i64 t18, .int .i64 t19, .int .i64 t20, .int .i64 t21, .int .i64 t22, .int .i64 t23, .bool t24, .bool t25, .bool t26, .int .i64 t27, .int .i64 t28]) BKb31.out (by rw [show (xv (Value.int .i8) t17 [.int .i64 t18, .int .i64 t19, .int .i64 t20, .int .i64 t21, .int .i64 t22, .int .i64 t23, .bool t24, .bool t25, .bool t26, .int .i64 t27, .int .i64 t28]) = xv (Value.int .i8) t17 [.int .i64 t18, .int .i64 t19, .int .i64 t20, .int .i64 t21, .int .i64 t22, .int .i64 t23, .bool t24, .bool t25, .bool t26, .int .i64 t27, .int .i64 t28] from rfl, xv_size, show t17.length = 64 from LN_t17.out]; rfl) (xv_le zL_len 75 rfl) (xv_one (fun _ => rfl) (by intro v_ hv_; simp at hv_; rcases hv_ with rfl | rfl | rfl | rfl | rfl | rfl | rfl | rfl | rfl | rfl | rfl <;> rfl)) (xv_put zL_len LN_t17.out rfl) rfl _ _ rfl rfl rfl ?_; intro w75 ho_ hB_; replace BKb16 := hid (BKb16.out.off ho_ NBb16_b31.out); replace HL := hid (ho_.below HL.out GEb31.out); replace BKb31 := hid hB_; clear ho_ hB_))
          (try simp only [Act.put, sI, sZ, sS])
          go_ret
          exact ⟨by first | rfl | (simp; done) | (simp [*]; done), HL.out⟩
         ·
          rw [if_neg c71] at H
          have c71b0 : (t30 == 0) = false := beq_eq_false_iff_ne.mpr c71
          have c71b1 : (t30 != 0) = true := bne_iff_ne.mpr c71
          have hc71 := hid c71
          clear c71
          by_cases c76 : t30 = 2
          ·
           rw [if_pos c76] at H
           have c76b0 : (t30 == 2) = true := beq_iff_eq.mpr c76
           have c76b1 : (t30 != 2) = false := bne_eq_false_iff_eq.mpr c76
           have hc76 := hid c76
           clear c76
           obtain rfl := Option.some.inj H
           clear H
           have k77 := True.intro
           go_wp2_with (first
            | (go_at_call 5; clear k77; refine (i_task_Read.calls k (a0 ++ a1) t17 t18 t19 t20 t21 t22 t23 t24 t25 t26 t27 t28 t29 t30 _ A44.out).mono ?_; rintro e_ w78 ⟨rfl, ln_t17, hb_⟩; have LN_t17 := hid ln_t17; clear ln_t17; replace BKb16 := hid (BKb16.out.below hb_ BKb16.out.lt); replace HL := hid (HL.out.trans (hb_.mono HL.out.size)); clear hb_)
            | ((with_reducible refine gate_d (N := 8) rfl ?_); obtain ⟨gb31, hgb31⟩ : ∃ g_, w78.heap.size = g_ := ⟨_, rfl⟩; refine ag_alloc aT31 gb31 hgb31 rfl rfl ?_; intro w79 hb_ hB_ hs_; have GEb31 : Hid (w.heap.size ≤ gb31) := hid (by have := HL.out.size; omega); have NBb16_b31 : Hid (gb16 ≠ gb31) := hid (by have := BKb16.out.lt; omega); have NBb31_b16 : Hid (gb31 ≠ gb16) := hid (by have := NBb16_b31.out; omega); replace BKb16 := hid (BKb16.out.below hb_ (by rw [← hgb31]; exact BKb16.out.lt)); replace HL := hid (HL.out.trans (hb_.mono GEb31.out)); have BKb31 := hid hB_; clear hb_ hB_ hs_ hgb31)
            | ((with_reducible refine gate_s (t := 31) (p := 8) rfl ?_); refine ag_store aT31 gb31 0 (xv (Value.int .i8) zL [.int .i64 0, .int .i64 0, .int .i64 0, .int .i64 0, .int .i64 0, .int .i64 0, .bool false, .bool false, .bool false, .int .i64 0, .int .i64 0]) (xv (Value.int .i8) t17 [.int .i64 t18, .int .i64 t19, .int .i64 t20, .int .i64 t21, .int .i64 t22, .int .i64 t23, .bool t24, .bool t25, .bool t26, .int .i64 t27, .int .i64 t28]) (xv (Value.int .i8) t17 [.int .i64 t18, .int .i64 t19, .int .i64 t20, .int .i64 t21, .int .i64 t22, .int .i64 t23, .bool t24, .bool t25, .bool t26, .int .i64 t27, .int .i64 t28]) BKb31.out (by rw [show (xv (Value.int .i8) t17 [.int .i64 t18, .int .i64 t19, .int .i64 t20, .int .i64 t21, .int .i64 t22, .int .i64 t23, .bool t24, .bool t25, .bool t26, .int .i64 t27, .int .i64 t28]) = xv (Value.int .i8) t17 [.int .i64 t18, .int .i64 t19, .int .i64 t20, .int .i64 t21, .int .i64 t22, .int .i64 t23, .bool t24, .bool t25, .bool t26, .int .i64 t27, .int .i64 t28] from rfl, xv_size, show t17.length = 64 from LN_t17.out]; rfl) (xv_le zL_len 75 rfl) (xv_one (fun _ => rfl) (by intro v_ hv_; simp at hv_; rcases hv_ with rfl | rfl | rfl | rfl | rfl | rfl | rfl | rfl | rfl | rfl | rfl <;> rfl)) (xv_put zL_len LN_t17.out rfl) rfl _ _ rfl rfl rfl ?_; intro w80 ho_ hB_; replace BKb16 := hid (BKb16.out.off ho_ NBb16_b31.out); replace HL := hid (ho_.below HL.out GEb31.out); replace BKb31 := hid hB_; clear ho_ hB_))
           (try simp only [Act.put, sI, sZ, sS])
           go_ret
           exact ⟨by first | rfl | (simp; done) | (simp [*]; done), HL.out⟩
          ·
           rw [if_neg c76] at H
           have c76b0 : (t30 == 2) = false := beq_eq_false_iff_ne.mpr c76
           have c76b1 : (t30 != 2) = true := bne_iff_ne.mpr c76
           have hc76 := hid c76
           clear c76
           obtain rfl := Option.some.inj H
           clear H
           have k81 := True.intro
           go_wp2_with (first
            | (go_at_call 5; clear k81; refine (i_task_Read.calls k (a0 ++ a1) t17 t18 t19 t20 t21 t22 t23 t24 t25 t26 t27 t28 t29 t30 _ A44.out).mono ?_; rintro e_ w82 ⟨rfl, ln_t17, hb_⟩; have LN_t17 := hid ln_t17; clear ln_t17; replace BKb16 := hid (BKb16.out.below hb_ BKb16.out.lt); replace HL := hid (HL.out.trans (hb_.mono HL.out.size)); clear hb_)
            | ((with_reducible refine gate_d (N := 8) rfl ?_); obtain ⟨gb31, hgb31⟩ : ∃ g_, w82.heap.size = g_ := ⟨_, rfl⟩; refine ag_alloc aT31 gb31 hgb31 rfl rfl ?_; intro w83 hb_ hB_ hs_; have GEb31 : Hid (w.heap.size ≤ gb31) := hid (by have := HL.out.size; omega); have NBb16_b31 : Hid (gb16 ≠ gb31) := hid (by have := BKb16.out.lt; omega); have NBb31_b16 : Hid (gb31 ≠ gb16) := hid (by have := NBb16_b31.out; omega); replace BKb16 := hid (BKb16.out.below hb_ (by rw [← hgb31]; exact BKb16.out.lt)); replace HL := hid (HL.out.trans (hb_.mono GEb31.out)); have BKb31 := hid hB_; clear hb_ hB_ hs_ hgb31)
            | ((with_reducible refine gate_s (t := 31) (p := 8) rfl ?_); refine ag_store aT31 gb31 0 (xv (Value.int .i8) zL [.int .i64 0, .int .i64 0, .int .i64 0, .int .i64 0, .int .i64 0, .int .i64 0, .bool false, .bool false, .bool false, .int .i64 0, .int .i64 0]) (xv (Value.int .i8) t17 [.int .i64 t18, .int .i64 t19, .int .i64 t20, .int .i64 t21, .int .i64 t22, .int .i64 t23, .bool t24, .bool t25, .bool t26, .int .i64 t27, .int .i64 t28]) (xv (Value.int .i8) t17 [.int .i64 t18, .int .i64 t19, .int .i64 t20, .int .i64 t21, .int .i64 t22, .int .i64 t23, .bool t24, .bool t25, .bool t26, .int .i64 t27, .int .i64 t28]) BKb31.out (by rw [show (xv (Value.int .i8) t17 [.int .i64 t18, .int .i64 t19, .int .i64 t20, .int .i64 t21, .int .i64 t22, .int .i64 t23, .bool t24, .bool t25, .bool t26, .int .i64 t27, .int .i64 t28]) = xv (Value.int .i8) t17 [.int .i64 t18, .int .i64 t19, .int .i64 t20, .int .i64 t21, .int .i64 t22, .int .i64 t23, .bool t24, .bool t25, .bool t26, .int .i64 t27, .int .i64 t28] from rfl, xv_size, show t17.length = 64 from LN_t17.out]; rfl) (xv_le zL_len 75 rfl) (xv_one (fun _ => rfl) (by intro v_ hv_; simp at hv_; rcases hv_ with rfl | rfl | rfl | rfl | rfl | rfl | rfl | rfl | rfl | rfl | rfl <;> rfl)) (xv_put zL_len LN_t17.out rfl) rfl _ _ rfl rfl rfl ?_; intro w84 ho_ hB_; replace BKb16 := hid (BKb16.out.off ho_ NBb16_b31.out); replace HL := hid (ho_.below HL.out GEb31.out); replace BKb31 := hid hB_; clear ho_ hB_))
           (try simp only [Act.put, sI, sZ, sS])
           go_ret
           exact ⟨by first | rfl | (simp; done) | (simp [*]; done), HL.out⟩
        ·
         rw [if_neg c70] at H
         have c70b0 : (a1.toList == ([] : List UInt8)) = false := beq_eq_false_iff_ne.mpr c70
         have c70b1 : (a1.toList != ([] : List UInt8)) = true := bne_iff_ne.mpr c70
         have hc70 := hid c70
         clear c70
         by_cases c85 : t30 = 2
         ·
          rw [if_pos c85] at H
          have c85b0 : (t30 == 2) = true := beq_iff_eq.mpr c85
          have c85b1 : (t30 != 2) = false := bne_eq_false_iff_eq.mpr c85
          have hc85 := hid c85
          clear c85
          obtain rfl := Option.some.inj H
          clear H
          have k86 := True.intro
          go_wp2_with (first
           | (go_at_call 5; clear k86; refine (i_task_Read.calls k (a0 ++ a1) t17 t18 t19 t20 t21 t22 t23 t24 t25 t26 t27 t28 t29 t30 _ A44.out).mono ?_; rintro e_ w87 ⟨rfl, ln_t17, hb_⟩; have LN_t17 := hid ln_t17; clear ln_t17; replace BKb16 := hid (BKb16.out.below hb_ BKb16.out.lt); replace HL := hid (HL.out.trans (hb_.mono HL.out.size)); clear hb_)
           | ((with_reducible refine gate_d (N := 8) rfl ?_); obtain ⟨gb31, hgb31⟩ : ∃ g_, w87.heap.size = g_ := ⟨_, rfl⟩; refine ag_alloc aT31 gb31 hgb31 rfl rfl ?_; intro w88 hb_ hB_ hs_; have GEb31 : Hid (w.heap.size ≤ gb31) := hid (by have := HL.out.size; omega); have NBb16_b31 : Hid (gb16 ≠ gb31) := hid (by have := BKb16.out.lt; omega); have NBb31_b16 : Hid (gb31 ≠ gb16) := hid (by have := NBb16_b31.out; omega); replace BKb16 := hid (BKb16.out.below hb_ (by rw [← hgb31]; exact BKb16.out.lt)); replace HL := hid (HL.out.trans (hb_.mono GEb31.out)); have BKb31 := hid hB_; clear hb_ hB_ hs_ hgb31)
           | ((with_reducible refine gate_s (t := 31) (p := 8) rfl ?_); refine ag_store aT31 gb31 0 (xv (Value.int .i8) zL [.int .i64 0, .int .i64 0, .int .i64 0, .int .i64 0, .int .i64 0, .int .i64 0, .bool false, .bool false, .bool false, .int .i64 0, .int .i64 0]) (xv (Value.int .i8) t17 [.int .i64 t18, .int .i64 t19, .int .i64 t20, .int .i64 t21, .int .i64 t22, .int .i64 t23, .bool t24, .bool t25, .bool t26, .int .i64 t27, .int .i64 t28]) (xv (Value.int .i8) t17 [.int .i64 t18, .int .i64 t19, .int .i64 t20, .int .i64 t21, .int .i64 t22, .int .i64 t23, .bool t24, .bool t25, .bool t26, .int .i64 t27, .int .i64 t28]) BKb31.out (by rw [show (xv (Value.int .i8) t17 [.int .i64 t18, .int .i64 t19, .int .i64 t20, .int .i64 t21, .int .i64 t22, .int .i64 t23, .bool t24, .bool t25, .bool t26, .int .i64 t27, .int .i64 t28]) = xv (Value.int .i8) t17 [.int .i64 t18, .int .i64 t19, .int .i64 t20, .int .i64 t21, .int .i64 t22, .int .i64 t23, .bool t24, .bool t25, .bool t26, .int .i64 t27, .int .i64 t28] from rfl, xv_size, show t17.length = 64 from LN_t17.out]; rfl) (xv_le zL_len 75 rfl) (xv_one (fun _ => rfl) (by intro v_ hv_; simp at hv_; rcases hv_ with rfl | rfl | rfl | rfl | rfl | rfl | rfl | rfl | rfl | rfl | rfl <;> rfl)) (xv_put zL_len LN_t17.out rfl) rfl _ _ rfl rfl rfl ?_; intro w89 ho_ hB_; replace BKb16 := hid (BKb16.out.off ho_ NBb16_b31.out); replace HL := hid (ho_.below HL.out GEb31.out); replace BKb31 := hid hB_; clear ho_ hB_))
          (try simp only [Act.put, sI, sZ, sS])
          go_ret
          exact ⟨by first | rfl | (simp; done) | (simp [*]; done), HL.out⟩
         ·
          rw [if_neg c85] at H
          have c85b0 : (t30 == 2) = false := beq_eq_false_iff_ne.mpr c85
          have c85b1 : (t30 != 2) = true := bne_iff_ne.mpr c85
          have hc85 := hid c85
          clear c85
          obtain rfl := Option.some.inj H
          clear H
          have k90 := True.intro
          go_wp2_with (first
           | (go_at_call 5; clear k90; refine (i_task_Read.calls k (a0 ++ a1) t17 t18 t19 t20 t21 t22 t23 t24 t25 t26 t27 t28 t29 t30 _ A44.out).mono ?_; rintro e_ w91 ⟨rfl, ln_t17, hb_⟩; have LN_t17 := hid ln_t17; clear ln_t17; replace BKb16 := hid (BKb16.out.below hb_ BKb16.out.lt); replace HL := hid (HL.out.trans (hb_.mono HL.out.size)); clear hb_)
           | ((with_reducible refine gate_d (N := 8) rfl ?_); obtain ⟨gb31, hgb31⟩ : ∃ g_, w91.heap.size = g_ := ⟨_, rfl⟩; refine ag_alloc aT31 gb31 hgb31 rfl rfl ?_; intro w92 hb_ hB_ hs_; have GEb31 : Hid (w.heap.size ≤ gb31) := hid (by have := HL.out.size; omega); have NBb16_b31 : Hid (gb16 ≠ gb31) := hid (by have := BKb16.out.lt; omega); have NBb31_b16 : Hid (gb31 ≠ gb16) := hid (by have := NBb16_b31.out; omega); replace BKb16 := hid (BKb16.out.below hb_ (by rw [← hgb31]; exact BKb16.out.lt)); replace HL := hid (HL.out.trans (hb_.mono GEb31.out)); have BKb31 := hid hB_; clear hb_ hB_ hs_ hgb31)
           | ((with_reducible refine gate_s (t := 31) (p := 8) rfl ?_); refine ag_store aT31 gb31 0 (xv (Value.int .i8) zL [.int .i64 0, .int .i64 0, .int .i64 0, .int .i64 0, .int .i64 0, .int .i64 0, .bool false, .bool false, .bool false, .int .i64 0, .int .i64 0]) (xv (Value.int .i8) t17 [.int .i64 t18, .int .i64 t19, .int .i64 t20, .int .i64 t21, .int .i64 t22, .int .i64 t23, .bool t24, .bool t25, .bool t26, .int .i64 t27, .int .i64 t28]) (xv (Value.int .i8) t17 [.int .i64 t18, .int .i64 t19, .int .i64 t20, .int .i64 t21, .int .i64 t22, .int .i64 t23, .bool t24, .bool t25, .bool t26, .int .i64 t27, .int .i64 t28]) BKb31.out (by rw [show (xv (Value.int .i8) t17 [.int .i64 t18, .int .i64 t19, .int .i64 t20, .int .i64 t21, .int .i64 t22, .int .i64 t23, .bool t24, .bool t25, .bool t26, .int .i64 t27, .int .i64 t28]) = xv (Value.int .i8) t17 [.int .i64 t18, .int .i64 t19, .int .i64 t20, .int .i64 t21, .int .i64 t22, .int .i64 t23, .bool t24, .bool t25, .bool t26, .int .i64 t27, .int .i64 t28] from rfl, xv_size, show t17.length = 64 from LN_t17.out]; rfl) (xv_le zL_len 75 rfl) (xv_one (fun _ => rfl) (by intro v_ hv_; simp at hv_; rcases hv_ with rfl | rfl | rfl | rfl | rfl | rfl | rfl | rfl | rfl | rfl | rfl <;> rfl)) (xv_put zL_len LN_t17.out rfl) rfl _ _ rfl rfl rfl ?_; intro w93 ho_ hB_; replace BKb16 := hid (BKb16.out.off ho_ NBb16_b31.out); replace HL := hid (ho_.below HL.out GEb31.out); replace BKb31 := hid hB_; clear ho_ hB_))
          (try simp only [Act.put, sI, sZ, sS])
          go_ret
          exact ⟨by first | rfl | (simp; done) | (simp [*]; done), HL.out⟩
       ·
        rw [if_neg c69] at H
        have c69b0 : (t15 == 0) = false := beq_eq_false_iff_ne.mpr c69
        have c69b1 : (t15 != 0) = true := bne_iff_ne.mpr c69
        have hc69 := hid c69
        clear c69
        obtain rfl := Option.some.inj H
        clear H
        have k94 := True.intro
        go_wp2_with (first
         | (go_at_call 5; clear k94; refine (i_task_Read.calls k (a0 ++ a1) t17 t18 t19 t20 t21 t22 t23 t24 t25 t26 t27 t28 t29 t30 _ A44.out).mono ?_; rintro e_ w95 ⟨rfl, ln_t17, hb_⟩; have LN_t17 := hid ln_t17; clear ln_t17; replace BKb16 := hid (BKb16.out.below hb_ BKb16.out.lt); replace HL := hid (HL.out.trans (hb_.mono HL.out.size)); clear hb_)
         | ((with_reducible refine gate_d (N := 8) rfl ?_); obtain ⟨gb31, hgb31⟩ : ∃ g_, w95.heap.size = g_ := ⟨_, rfl⟩; refine ag_alloc aT31 gb31 hgb31 rfl rfl ?_; intro w96 hb_ hB_ hs_; have GEb31 : Hid (w.heap.size ≤ gb31) := hid (by have := HL.out.size; omega); have NBb16_b31 : Hid (gb16 ≠ gb31) := hid (by have := BKb16.out.lt; omega); have NBb31_b16 : Hid (gb31 ≠ gb16) := hid (by have := NBb16_b31.out; omega); replace BKb16 := hid (BKb16.out.below hb_ (by rw [← hgb31]; exact BKb16.out.lt)); replace HL := hid (HL.out.trans (hb_.mono GEb31.out)); have BKb31 := hid hB_; clear hb_ hB_ hs_ hgb31)
         | ((with_reducible refine gate_s (t := 31) (p := 8) rfl ?_); refine ag_store aT31 gb31 0 (xv (Value.int .i8) zL [.int .i64 0, .int .i64 0, .int .i64 0, .int .i64 0, .int .i64 0, .int .i64 0, .bool false, .bool false, .bool false, .int .i64 0, .int .i64 0]) (xv (Value.int .i8) t17 [.int .i64 t18, .int .i64 t19, .int .i64 t20, .int .i64 t21, .int .i64 t22, .int .i64 t23, .bool t24, .bool t25, .bool t26, .int .i64 t27, .int .i64 t28]) (xv (Value.int .i8) t17 [.int .i64 t18, .int .i64 t19, .int .i64 t20, .int .i64 t21, .int .i64 t22, .int .i64 t23, .bool t24, .bool t25, .bool t26, .int .i64 t27, .int .i64 t28]) BKb31.out (by rw [show (xv (Value.int .i8) t17 [.int .i64 t18, .int .i64 t19, .int .i64 t20, .int .i64 t21, .int .i64 t22, .int .i64 t23, .bool t24, .bool t25, .bool t26, .int .i64 t27, .int .i64 t28]) = xv (Value.int .i8) t17 [.int .i64 t18, .int .i64 t19, .int .i64 t20, .int .i64 t21, .int .i64 t22, .int .i64 t23, .bool t24, .bool t25, .bool t26, .int .i64 t27, .int .i64 t28] from rfl, xv_size, show t17.length = 64 from LN_t17.out]; rfl) (xv_le zL_len 75 rfl) (xv_one (fun _ => rfl) (by intro v_ hv_; simp at hv_; rcases hv_ with rfl | rfl | rfl | rfl | rfl | rfl | rfl | rfl | rfl | rfl | rfl <;> rfl)) (xv_put zL_len LN_t17.out rfl) rfl _ _ rfl rfl rfl ?_; intro w97 ho_ hB_; replace BKb16 := hid (BKb16.out.off ho_ NBb16_b31.out); replace HL := hid (ho_.below HL.out GEb31.out); replace BKb31 := hid hB_; clear ho_ hB_))
        (try simp only [Act.put, sI, sZ, sS])
        go_ret
        exact ⟨by first | rfl | (simp; done) | (simp [*]; done), HL.out⟩
    ·
     rw [if_neg c43] at H
     exact absurd H (by simp)
 | false =>
  rw [if_neg (show ¬ (false = true) by decide)] at H
  obtain rfl := Option.some.inj H
  clear H
  go_enter Try.func3, Try.ntmps3
  have k98 := True.intro
  go_wp2_with (first
   | (go_at_call 4; clear k98; refine (i_alfillaw16_wakes.calls k false _ A32.out).mono ?_; rintro e_ w99 ⟨rfl, hb_⟩; replace HL := hid (HL.out.trans (hb_.mono HL.out.size)); clear hb_))
  (try simp only [Act.put, sI, sZ, sS])
  go_ret
  exact ⟨by first | rfl | (simp; done) | (simp [*]; done), HL.out⟩
end Go.Proofs.Ytaipghemddjecaa
