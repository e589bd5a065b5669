/- The walks of keys, and of the positions of the laws of tables. -/
import Derived.Test.YtpjocgebnodnoaaProg
import Derived.Test.YtpjocgebnodnoaaRs
namespace Go.Proofs.Ytpjocgebnodnoaa
open Go.RowKit
set_option linter.unusedVariables false
set_option linter.unusedSimpArgs false
set_option maxRecDepth 100000
theorem und_txt : Try.prog.underlying 9 = some .string := by kernel_rfl
theorem ix_txt (t : ByteArray) (k : Int) (h0 : 0 ≤ k) (h1 : k < t.size) (w : World) : (Instr.index 9 (.string t) (.int .i64 k)).run Try.prog w = .ok (.int .u8 (bt t k.toNat)) w := by
  have hb := bt_get t k.toNat (by omega)
  simp [Instr.index, asIntOf, run_underlying und_txt, h0, h1]
  exact hb
theorem fa46_1_0 (g : Nat) (w : World) : (Instr.fieldAt 46 (.pointer (some ⟨g, 0, none⟩)) 1).run Try.prog w = .ok (.pointer (some ⟨g, 64, none⟩)) w := by kernel_rfl
theorem sT3 : ScT Try.prog 3 := ⟨fun w => by kernel_rfl, fun w => by kernel_rfl⟩
theorem fa46_2_0 (g : Nat) (w : World) : (Instr.fieldAt 46 (.pointer (some ⟨g, 0, none⟩)) 2).run Try.prog w = .ok (.pointer (some ⟨g, 65, none⟩)) w := by kernel_rfl
theorem fa46_3_0 (g : Nat) (w : World) : (Instr.fieldAt 46 (.pointer (some ⟨g, 0, none⟩)) 3).run Try.prog w = .ok (.pointer (some ⟨g, 66, none⟩)) w := by kernel_rfl
theorem fa46_0_0 (g : Nat) (w : World) : (Instr.fieldAt 46 (.pointer (some ⟨g, 0, none⟩)) 0).run Try.prog w = .ok (.pointer (some ⟨g, 0, none⟩)) w := by kernel_rfl
theorem uT44 : Try.prog.underlying 44 = some (.array 64 42) := by kernel_rfl
theorem sT42 : ScT Try.prog 42 := ⟨fun w => by kernel_rfl, fun w => by kernel_rfl⟩
theorem uT129 : Try.prog.underlying 129 = some (.array 8 42) := by kernel_rfl
/-! i_key_Mix: function 121 -/
def i_key_Mix.f (a0 : Int) : Option (Int) := some (Go.bits .xor .u64 (IntKind.u64.wrap ((Go.bits .xor .u64 (IntKind.u64.wrap ((Go.bits .xor .u64 (IntKind.u64.wrap ((IntKind.u64.wrap (a0 * 11400714819323198485)) + 11400714819323198485)) ((IntKind.u64.wrap ((IntKind.u64.wrap (a0 * 11400714819323198485)) + 11400714819323198485)) / 1073741824)) * 13787848793156543929)) ((IntKind.u64.wrap ((Go.bits .xor .u64 (IntKind.u64.wrap ((IntKind.u64.wrap (a0 * 11400714819323198485)) + 11400714819323198485)) ((IntKind.u64.wrap ((IntKind.u64.wrap (a0 * 11400714819323198485)) + 11400714819323198485)) / 1073741824)) * 13787848793156543929)) / 134217728)) * 10723151780598845931)) ((IntKind.u64.wrap ((Go.bits .xor .u64 (IntKind.u64.wrap ((Go.bits .xor .u64 (IntKind.u64.wrap ((IntKind.u64.wrap (a0 * 11400714819323198485)) + 11400714819323198485)) ((IntKind.u64.wrap ((IntKind.u64.wrap (a0 * 11400714819323198485)) + 11400714819323198485)) / 1073741824)) * 13787848793156543929)) ((IntKind.u64.wrap ((Go.bits .xor .u64 (IntKind.u64.wrap ((IntKind.u64.wrap (a0 * 11400714819323198485)) + 11400714819323198485)) ((IntKind.u64.wrap ((IntKind.u64.wrap (a0 * 11400714819323198485)) + 11400714819323198485)) / 1073741824)) * 13787848793156543929)) / 134217728)) * 10723151780598845931)) / 2147483648))
set_option maxHeartbeats 40000000 in
set_option maxRecDepth 100000 in
theorem i_key_Mix.calls (a0 : Int) (r1 : Int) (w : World) (h : i_key_Mix.f a0 = some r1) :
    Calls Try.prog 121 #[.int .u64 a0] w fun e w' => e = .returned (.int .u64 r1) ∧ w = w' := by
 have H : (some (Go.bits .xor .u64 (IntKind.u64.wrap ((Go.bits .xor .u64 (IntKind.u64.wrap ((Go.bits .xor .u64 (IntKind.u64.wrap ((IntKind.u64.wrap (a0 * 11400714819323198485)) + 11400714819323198485)) ((IntKind.u64.wrap ((IntKind.u64.wrap (a0 * 11400714819323198485)) + 11400714819323198485)) / 1073741824)) * 13787848793156543929)) ((IntKind.u64.wrap ((Go.bits .xor .u64 (IntKind.u64.wrap ((IntKind.u64.wrap (a0 * 11400714819323198485)) + 11400714819323198485)) ((IntKind.u64.wrap ((IntKind.u64.wrap (a0 * 11400714819323198485)) + 11400714819323198485)) / 1073741824)) * 13787848793156543929)) / 134217728)) * 10723151780598845931)) ((IntKind.u64.wrap ((Go.bits .xor .u64 (IntKind.u64.wrap ((Go.bits .xor .u64 (IntKind.u64.wrap ((IntKind.u64.wrap (a0 * 11400714819323198485)) + 11400714819323198485)) ((IntKind.u64.wrap ((IntKind.u64.wrap (a0 * 11400714819323198485)) + 11400714819323198485)) / 1073741824)) * 13787848793156543929)) ((IntKind.u64.wrap ((Go.bits .xor .u64 (IntKind.u64.wrap ((IntKind.u64.wrap (a0 * 11400714819323198485)) + 11400714819323198485)) ((IntKind.u64.wrap ((IntKind.u64.wrap (a0 * 11400714819323198485)) + 11400714819323198485)) / 1073741824)) * 13787848793156543929)) / 134217728)) * 10723151780598845931)) / 2147483648))) = some r1 := h
 clear h
 obtain rfl := Option.some.inj H
 clear H
 go_enter Try.func121, Try.ntmps121
 go_wp2_with fail
 (try simp only [Act.put, sI, sZ, sS])
 go_ret
 exact ⟨by first | rfl | (simp; done) | (simp [*]; done), rfl⟩
/-! i_key_rest: function 119 -/
mutual
def i_key_rest.l0 : Nat → Int → Int → Int → Int → Option (Int)
  | 0, _, _, _, _ => none
  | k + 1, a0_2, a0_3, x3_0, x4_0 => if x4_0 ≤ 8 then (if (Go.bits .and .i64 a0_2 x4_0) = 0 then (i_key_rest.l0 k a0_2 a0_3 x3_0 (wrap64 (x4_0 * 2))) else ((i_key_Mix.f (IntKind.u64.wrap (wrap64 (1032 + x4_0)))).bind fun t5 => (i_key_rest.l0 k a0_2 a0_3 (Go.bits .xor .u64 x3_0 t5) (wrap64 (x4_0 * 2))))) else (if a0_3 > (-1) then ((i_key_Mix.f (IntKind.u64.wrap (1056 + (IntKind.u64.wrap (a0_3))))).bind fun t6 => (some (Go.bits .xor .u64 x3_0 t6))) else (some x3_0))
def i_key_rest.l1 : Nat → Int → Int → Int → Int → Option (Int)
  | 0, _, _, _, _ => none
  | k + 1, a0_2, a0_3, x3_1, x4_1 => if x4_1 ≤ 8 then (if (Go.bits .and .i64 a0_2 x4_1) = 0 then (i_key_rest.l1 k a0_2 a0_3 x3_1 (wrap64 (x4_1 * 2))) else ((i_key_Mix.f (IntKind.u64.wrap (wrap64 (1032 + x4_1)))).bind fun t9 => (i_key_rest.l1 k a0_2 a0_3 (Go.bits .xor .u64 x3_1 t9) (wrap64 (x4_1 * 2))))) else (if a0_3 > (-1) then ((i_key_Mix.f (IntKind.u64.wrap (1056 + (IntKind.u64.wrap (a0_3))))).bind fun t10 => (some (Go.bits .xor .u64 x3_1 t10))) else (some x3_1))
end
def i_key_rest.f (k : Nat) (a0_0 : List Int) (a0_1 : Int) (a0_2 : Int) (a0_3 : Int) : Option (Int) := if a0_1 = 1 then ((i_key_Mix.f 1024).bind fun t2 => (i_key_rest.l0 k a0_2 a0_3 (Go.bits .xor .u64 0 t2) 1)) else (i_key_rest.l1 k a0_2 a0_3 0 1)
set_option maxHeartbeats 40000000 in
set_option maxRecDepth 100000 in
theorem i_key_rest.calls (k : Nat) (a0_0 : List Int) (a0_1 : Int) (a0_2 : Int) (a0_3 : Int) (hla0_0 : a0_0.length = 64) (r1 : Int) (w : World) (h : i_key_rest.f k a0_0 a0_1 a0_2 a0_3 = some r1) :
    Calls Try.prog 119 #[.agg (pv a0_0 a0_1 a0_2 a0_3)] w fun e w' => e = .returned (.int .u64 r1) ∧ Below w.heap.size w w' := by
 have LN_a0_0 := hid hla0_0
 clear hla0_0
 have HL := hid (Below.refl w.heap.size w)
 have H : (if a0_1 = 1 then ((i_key_Mix.f 1024).bind fun t2 => (i_key_rest.l0 k a0_2 a0_3 (Go.bits .xor .u64 0 t2) 1)) else (i_key_rest.l1 k a0_2 a0_3 0 1)) = some r1 := h
 clear h
 by_cases c11 : a0_1 = 1
 ·
  rw [if_pos c11] at H
  have c11b0 : (a0_1 == 1) = true := beq_iff_eq.mpr c11
  have c11b1 : (a0_1 != 1) = false := bne_eq_false_iff_eq.mpr c11
  have hc11 := hid c11
  clear c11
  replace H := Option.bind_eq_some_iff.mp H
  obtain ⟨t2, A12_, H⟩ := H
  have A12 := hid A12_
  clear A12_
  have H' := hid H
  clear H
  go_enter Try.func119, Try.ntmps119
  have k14 := True.intro
  go_wp2_with (first
   | ((with_reducible refine gate_d (N := 1) rfl ?_); obtain ⟨gb1, hgb1⟩ : ∃ g_, w.heap.size = g_ := ⟨_, rfl⟩; refine ag_box (pv a0_0 a0_1 a0_2 a0_3) gb1 hgb1 rfl _ rfl rfl ?_; intro w13 hb_ hB_ hs_; have GEb1 : Hid (w.heap.size ≤ gb1) := hid (by have := HL.out.size; omega); replace HL := hid (HL.out.trans (hb_.mono GEb1.out)); have BKb1 := hid hB_; clear hb_ hB_ hs_ hgb1)
   | ((with_reducible refine gate_d (N := 5) rfl ?_); refine ag_fix (.pointer (some ⟨gb1, 64, none⟩)) (ex_field 46 1 (.pointer (some ⟨gb1, 0, none⟩)) (.pointer (some ⟨gb1, 64, none⟩)) (fa46_1_0 gb1) _ rfl rfl) rfl ?_)
   | ((with_reducible refine gate_d (N := 6) rfl ?_); refine ag_fix (.int .i64 a0_1) (ex_get sT3 gb1 (64) (.int .i64 a0_1) ((pv a0_0 a0_1 a0_2 a0_3)) BKb1.out ((xv_cell (n := 64) LN_a0_0.out 0 64 (by omega)).trans rfl) _ rfl rfl) rfl ?_)
   | (go_at_call 121; clear k14; refine (i_key_Mix.calls 1024 t2 _ A12.out).mono ?_; rintro e_ w' ⟨rfl, rfl⟩))
  (try simp only [Act.put, sI, sZ, sS])
  go_loopg [3, 4] k (fun kq v3 v4 w' => ∃ (x3_0 : Int) (x4_0 : Int), v3 = .int .u64 x3_0 ∧ v4 = .int .i64 x4_0 ∧ Hid (i_key_rest.l0 kq a0_2 a0_3 x3_0 x4_0 = some r1) ∧ Hid (kq ≤ k) ∧ Hid (Blk w' gb1 46 (pv a0_0 a0_1 a0_2 a0_3)) ∧ Hid (Below w.heap.size w w'))
  case atStart => exact ⟨Go.bits .xor .u64 0 t2, (1 : Int), (by first | rfl | (simp; done) | (simp [*]; done)), (by first | rfl | (simp; done) | (simp [*]; done)), H', (hid (by first | omega | (omega))), (hid (by exact BKb1.out)), HL⟩
  case round =>
   clear H'
   clear HL BKb1
   obtain ⟨x3_0, x4_0, rfl, rfl, HA, HK15, BKb1, HL⟩ := hrel
   cases gk with
   | zero => exact absurd HA.out (by simp [i_key_rest.l0])
   | succ k16 =>
    have H := HA.out
    clear HA
    simp only [i_key_rest.l0] at H
    by_cases c17 : x4_0 ≤ 8
    ·
     rw [if_pos c17] at H
     have c17b0 : decide (x4_0 ≤ 8) = true := decide_eq_true c17
     have hc17 := hid c17
     clear c17
     by_cases c18 : (Go.bits .and .i64 a0_2 x4_0) = 0
     ·
      rw [if_pos c18] at H
      have c18b0 : ((Go.bits .and .i64 a0_2 x4_0) == 0) = true := beq_iff_eq.mpr c18
      have c18b1 : ((Go.bits .and .i64 a0_2 x4_0) != 0) = false := bne_eq_false_iff_eq.mpr c18
      have hc18 := hid c18
      clear c18
      have H' := hid H
      clear H
      go_wp2_with (first
       | ((with_reducible refine gate_d (N := 15) rfl ?_); refine ag_fix (.pointer (some ⟨gb1, 65, none⟩)) (ex_field 46 2 (.pointer (some ⟨gb1, 0, none⟩)) (.pointer (some ⟨gb1, 65, none⟩)) (fa46_2_0 gb1) _ rfl rfl) rfl ?_)
       | ((with_reducible refine gate_d (N := 16) rfl ?_); refine ag_fix (.int .i64 a0_2) (ex_get sT3 gb1 (65) (.int .i64 a0_2) ((pv a0_0 a0_1 a0_2 a0_3)) BKb1.out ((xv_cell (n := 64) LN_a0_0.out 1 65 (by omega)).trans rfl) _ rfl rfl) rfl ?_))
      (try simp only [Act.put, sI, sZ, sS])
      go_roundg k16
      case measure => have := HK15.out; omega
      case rel => exact ⟨x3_0, wrap64 (x4_0 * 2), (by first | rfl | (simp; done) | (simp [*]; done)), (by first | rfl | (simp; done) | (simp [*]; done)), H', (hid (by first | omega | (have := HK15.out; omega))), (hid (by exact BKb1.out)), HL⟩
     ·
      rw [if_neg c18] at H
      have c18b0 : ((Go.bits .and .i64 a0_2 x4_0) == 0) = false := beq_eq_false_iff_ne.mpr c18
      have c18b1 : ((Go.bits .and .i64 a0_2 x4_0) != 0) = true := bne_iff_ne.mpr c18
      have hc18 := hid c18
      clear c18
      replace H := Option.bind_eq_some_iff.mp H
      obtain ⟨t5, A19_, H⟩ := H
      have A19 := hid A19_
      clear A19_
      have H' := hid H
      clear H
      have k20 := True.intro
      go_wp2_with (first
       | ((with_reducible refine gate_d (N := 15) rfl ?_); refine ag_fix (.pointer (some ⟨gb1, 65, none⟩)) (ex_field 46 2 (.pointer (some ⟨gb1, 0, none⟩)) (.pointer (some ⟨gb1, 65, none⟩)) (fa46_2_0 gb1) _ rfl rfl) rfl ?_)
       | ((with_reducible refine gate_d (N := 16) rfl ?_); refine ag_fix (.int .i64 a0_2) (ex_get sT3 gb1 (65) (.int .i64 a0_2) ((pv a0_0 a0_1 a0_2 a0_3)) BKb1.out ((xv_cell (n := 64) LN_a0_0.out 1 65 (by omega)).trans rfl) _ rfl rfl) rfl ?_)
       | (go_at_call 121; clear k20; refine (i_key_Mix.calls (IntKind.u64.wrap (wrap64 (1032 + x4_0))) t5 _ A19.out).mono ?_; rintro e_ w' ⟨rfl, rfl⟩))
      (try simp only [Act.put, sI, sZ, sS])
      go_roundg k16
      case measure => have := HK15.out; omega
      case rel => exact ⟨Go.bits .xor .u64 x3_0 t5, wrap64 (x4_0 * 2), (by first | rfl | (simp; done) | (simp [*]; done)), (by first | rfl | (simp; done) | (simp [*]; done)), H', (hid (by first | omega | (have := HK15.out; omega))), (hid (by exact BKb1.out)), HL⟩
    ·
     rw [if_neg c17] at H
     have c17b0 : decide (x4_0 ≤ 8) = false := decide_eq_false c17
     have hc17 := hid c17
     clear c17
     by_cases c21 : a0_3 > (-1)
     ·
      rw [if_pos c21] at H
      have c21b0 : decide ((-1) < a0_3) = true := decide_eq_true c21
      have hc21 := hid c21
      clear c21
      replace H := Option.bind_eq_some_iff.mp H
      obtain ⟨t6, A22_, H⟩ := H
      have A22 := hid A22_
      clear A22_
      obtain rfl := Option.some.inj H
      clear H
      have k23 := True.intro
      go_wp2_with (first
       | ((with_reducible refine gate_d (N := 26) rfl ?_); refine ag_fix (.pointer (some ⟨gb1, 66, none⟩)) (ex_field 46 3 (.pointer (some ⟨gb1, 0, none⟩)) (.pointer (some ⟨gb1, 66, none⟩)) (fa46_3_0 gb1) _ rfl rfl) rfl ?_)
       | ((with_reducible refine gate_d (N := 27) rfl ?_); refine ag_fix (.int .i64 a0_3) (ex_get sT3 gb1 (66) (.int .i64 a0_3) ((pv a0_0 a0_1 a0_2 a0_3)) BKb1.out ((xv_cell (n := 64) LN_a0_0.out 2 66 (by omega)).trans rfl) _ rfl rfl) rfl ?_)
       | ((with_reducible refine gate_d (N := 30) rfl ?_); refine ag_fix (.pointer (some ⟨gb1, 66, none⟩)) (ex_field 46 3 (.pointer (some ⟨gb1, 0, none⟩)) (.pointer (some ⟨gb1, 66, none⟩)) (fa46_3_0 gb1) _ rfl rfl) rfl ?_)
       | ((with_reducible refine gate_d (N := 31) rfl ?_); refine ag_fix (.int .i64 a0_3) (ex_get sT3 gb1 (66) (.int .i64 a0_3) ((pv a0_0 a0_1 a0_2 a0_3)) BKb1.out ((xv_cell (n := 64) LN_a0_0.out 2 66 (by omega)).trans rfl) _ rfl rfl) rfl ?_)
       | (go_at_call 121; clear k23; refine (i_key_Mix.calls (IntKind.u64.wrap (1056 + (IntKind.u64.wrap (a0_3)))) t6 _ A22.out).mono ?_; rintro e_ w' ⟨rfl, rfl⟩))
      (try simp only [Act.put, sI, sZ, sS])
      go_ret
      exact ⟨by first | rfl | (simp; done) | (simp [*]; done), HL.out⟩
     ·
      rw [if_neg c21] at H
      have c21b0 : decide ((-1) < a0_3) = false := decide_eq_false c21
      have hc21 := hid c21
      clear c21
      obtain rfl := Option.some.inj H
      clear H
      go_wp2_with (first
       | ((with_reducible refine gate_d (N := 26) rfl ?_); refine ag_fix (.pointer (some ⟨gb1, 66, none⟩)) (ex_field 46 3 (.pointer (some ⟨gb1, 0, none⟩)) (.pointer (some ⟨gb1, 66, none⟩)) (fa46_3_0 gb1) _ rfl rfl) rfl ?_)
       | ((with_reducible refine gate_d (N := 27) rfl ?_); refine ag_fix (.int .i64 a0_3) (ex_get sT3 gb1 (66) (.int .i64 a0_3) ((pv a0_0 a0_1 a0_2 a0_3)) BKb1.out ((xv_cell (n := 64) LN_a0_0.out 2 66 (by omega)).trans rfl) _ rfl rfl) rfl ?_))
      (try simp only [Act.put, sI, sZ, sS])
      go_ret
      exact ⟨by first | rfl | (simp; done) | (simp [*]; done), HL.out⟩
 ·
  rw [if_neg c11] at H
  have c11b0 : (a0_1 == 1) = false := beq_eq_false_iff_ne.mpr c11
  have c11b1 : (a0_1 != 1) = true := bne_iff_ne.mpr c11
  have hc11 := hid c11
  clear c11
  have H' := hid H
  clear H
  go_enter Try.func119, Try.ntmps119
  go_wp2_with (first
   | ((with_reducible refine gate_d (N := 1) rfl ?_); obtain ⟨gb1, hgb1⟩ : ∃ g_, w.heap.size = g_ := ⟨_, rfl⟩; refine ag_box (pv a0_0 a0_1 a0_2 a0_3) gb1 hgb1 rfl _ rfl rfl ?_; intro w24 hb_ hB_ hs_; have GEb1 : Hid (w.heap.size ≤ gb1) := hid (by have := HL.out.size; omega); replace HL := hid (HL.out.trans (hb_.mono GEb1.out)); have BKb1 := hid hB_; clear hb_ hB_ hs_ hgb1)
   | ((with_reducible refine gate_d (N := 5) rfl ?_); refine ag_fix (.pointer (some ⟨gb1, 64, none⟩)) (ex_field 46 1 (.pointer (some ⟨gb1, 0, none⟩)) (.pointer (some ⟨gb1, 64, none⟩)) (fa46_1_0 gb1) _ rfl rfl) rfl ?_)
   | ((with_reducible refine gate_d (N := 6) rfl ?_); refine ag_fix (.int .i64 a0_1) (ex_get sT3 gb1 (64) (.int .i64 a0_1) ((pv a0_0 a0_1 a0_2 a0_3)) BKb1.out ((xv_cell (n := 64) LN_a0_0.out 0 64 (by omega)).trans rfl) _ rfl rfl) rfl ?_))
  (try simp only [Act.put, sI, sZ, sS])
  go_loopg [3, 4] k (fun kq v3 v4 w' => ∃ (x3_1 : Int) (x4_1 : Int), v3 = .int .u64 x3_1 ∧ v4 = .int .i64 x4_1 ∧ Hid (i_key_rest.l1 kq a0_2 a0_3 x3_1 x4_1 = some r1) ∧ Hid (kq ≤ k) ∧ Hid (Blk w' gb1 46 (pv a0_0 a0_1 a0_2 a0_3)) ∧ Hid (Below w.heap.size w w'))
  case atStart => exact ⟨(0 : Int), (1 : Int), (by first | rfl | (simp; done) | (simp [*]; done)), (by first | rfl | (simp; done) | (simp [*]; done)), H', (hid (by first | omega | (omega))), (hid (by exact BKb1.out)), HL⟩
  case round =>
   clear H'
   clear HL BKb1
   obtain ⟨x3_1, x4_1, rfl, rfl, HA, HK25, BKb1, HL⟩ := hrel
   cases gk with
   | zero => exact absurd HA.out (by simp [i_key_rest.l1])
   | succ k26 =>
    have H := HA.out
    clear HA
    simp only [i_key_rest.l1] at H
    by_cases c27 : x4_1 ≤ 8
    ·
     rw [if_pos c27] at H
     have c27b0 : decide (x4_1 ≤ 8) = true := decide_eq_true c27
     have hc27 := hid c27
     clear c27
     by_cases c28 : (Go.bits .and .i64 a0_2 x4_1) = 0
     ·
      rw [if_pos c28] at H
      have c28b0 : ((Go.bits .and .i64 a0_2 x4_1) == 0) = true := beq_iff_eq.mpr c28
      have c28b1 : ((Go.bits .and .i64 a0_2 x4_1) != 0) = false := bne_eq_false_iff_eq.mpr c28
      have hc28 := hid c28
      clear c28
      have H' := hid H
      clear H
      go_wp2_with (first
       | ((with_reducible refine gate_d (N := 15) rfl ?_); refine ag_fix (.pointer (some ⟨gb1, 65, none⟩)) (ex_field 46 2 (.pointer (some ⟨gb1, 0, none⟩)) (.pointer (some ⟨gb1, 65, none⟩)) (fa46_2_0 gb1) _ rfl rfl) rfl ?_)
       | ((with_reducible refine gate_d (N := 16) rfl ?_); refine ag_fix (.int .i64 a0_2) (ex_get sT3 gb1 (65) (.int .i64 a0_2) ((pv a0_0 a0_1 a0_2 a0_3)) BKb1.out ((xv_cell (n := 64) LN_a0_0.out 1 65 (by omega)).trans rfl) _ rfl rfl) rfl ?_))
      (try simp only [Act.put, sI, sZ, sS])
      go_roundg k26
      case measure => have := HK25.out; omega
      case rel => exact ⟨x3_1, wrap64 (x4_1 * 2), (by first | rfl | (simp; done) | (simp [*]; done)), (by first | rfl | (simp; done) | (simp [*]; done)), H', (hid (by first | omega | (have := HK25.out; omega))), (hid (by exact BKb1.out)), HL⟩
     ·
      rw [if_neg c28] at H
      have c28b0 : ((Go.bits .and .i64 a0_2 x4_1) == 0) = false := beq_eq_false_iff_ne.mpr c28
      have c28b1 : ((Go.bits .and .i64 a0_2 x4_1) != 0) = true := bne_iff_ne.mpr c28
      have hc28 := hid c28
      clear c28
      replace H := Option.bind_eq_some_iff.mp H
      obtain ⟨t9, A29_, H⟩ := H
      have A29 := hid A29_
      clear A29_
      have H' := hid H
      clear H
      have k30 := True.intro
      go_wp2_with (first
       | ((with_reducible refine gate_d (N := 15) rfl ?_); refine ag_fix (.pointer (some ⟨gb1, 65, none⟩)) (ex_field 46 2 (.pointer (some ⟨gb1, 0, none⟩)) (.pointer (some ⟨gb1, 65, none⟩)) (fa46_2_0 gb1) _ rfl rfl) rfl ?_)
       | ((with_reducible refine gate_d (N := 16) rfl ?_); refine ag_fix (.int .i64 a0_2) (ex_get sT3 gb1 (65) (.int .i64 a0_2) ((pv a0_0 a0_1 a0_2 a0_3)) BKb1.out ((xv_cell (n := 64) LN_a0_0.out 1 65 (by omega)).trans rfl) _ rfl rfl) rfl ?_)
       | (go_at_call 121; clear k30; refine (i_key_Mix.calls (IntKind.u64.wrap (wrap64 (1032 + x4_1))) t9 _ A29.out).mono ?_; rintro e_ w' ⟨rfl, rfl⟩))
      (try simp only [Act.put, sI, sZ, sS])
      go_roundg k26
      case measure => have := HK25.out; omega
      case rel => exact ⟨Go.bits .xor .u64 x3_1 t9, wrap64 (x4_1 * 2), (by first | rfl | (simp; done) | (simp [*]; done)), (by first | rfl | (simp; done) | (simp [*]; done)), H', (hid (by first | omega | (have := HK25.out; omega))), (hid (by exact BKb1.out)), HL⟩
    ·
     rw [if_neg c27] at H
     have c27b0 : decide (x4_1 ≤ 8) = false := decide_eq_false c27
     have hc27 := hid c27
     clear c27
     by_cases c31 : a0_3 > (-1)
     ·
      rw [if_pos c31] at H
      have c31b0 : decide ((-1) < a0_3) = true := decide_eq_true c31
      have hc31 := hid c31
      clear c31
      replace H := Option.bind_eq_some_iff.mp H
      obtain ⟨t10, A32_, H⟩ := H
      have A32 := hid A32_
      clear A32_
      obtain rfl := Option.some.inj H
      clear H
      have k33 := True.intro
      go_wp2_with (first
       | ((with_reducible refine gate_d (N := 26) rfl ?_); refine ag_fix (.pointer (some ⟨gb1, 66, none⟩)) (ex_field 46 3 (.pointer (some ⟨gb1, 0, none⟩)) (.pointer (some ⟨gb1, 66, none⟩)) (fa46_3_0 gb1) _ rfl rfl) rfl ?_)
       | ((with_reducible refine gate_d (N := 27) rfl ?_); refine ag_fix (.int .i64 a0_3) (ex_get sT3 gb1 (66) (.int .i64 a0_3) ((pv a0_0 a0_1 a0_2 a0_3)) BKb1.out ((xv_cell (n := 64) LN_a0_0.out 2 66 (by omega)).trans rfl) _ rfl rfl) rfl ?_)
       | ((with_reducible refine gate_d (N := 30) rfl ?_); refine ag_fix (.pointer (some ⟨gb1, 66, none⟩)) (ex_field 46 3 (.pointer (some ⟨gb1, 0, none⟩)) (.pointer (some ⟨gb1, 66, none⟩)) (fa46_3_0 gb1) _ rfl rfl) rfl ?_)
       | ((with_reducible refine gate_d (N := 31) rfl ?_); refine ag_fix (.int .i64 a0_3) (ex_get sT3 gb1 (66) (.int .i64 a0_3) ((pv a0_0 a0_1 a0_2 a0_3)) BKb1.out ((xv_cell (n := 64) LN_a0_0.out 2 66 (by omega)).trans rfl) _ rfl rfl) rfl ?_)
       | (go_at_call 121; clear k33; refine (i_key_Mix.calls (IntKind.u64.wrap (1056 + (IntKind.u64.wrap (a0_3)))) t10 _ A32.out).mono ?_; rintro e_ w' ⟨rfl, rfl⟩))
      (try simp only [Act.put, sI, sZ, sS])
      go_ret
      exact ⟨by first | rfl | (simp; done) | (simp [*]; done), HL.out⟩
     ·
      rw [if_neg c31] at H
      have c31b0 : decide ((-1) < a0_3) = false := decide_eq_false c31
      have hc31 := hid c31
      clear c31
      obtain rfl := Option.some.inj H
      clear H
      go_wp2_with (first
       | ((with_reducible refine gate_d (N := 26) rfl ?_); refine ag_fix (.pointer (some ⟨gb1, 66, none⟩)) (ex_field 46 3 (.pointer (some ⟨gb1, 0, none⟩)) (.pointer (some ⟨gb1, 66, none⟩)) (fa46_3_0 gb1) _ rfl rfl) rfl ?_)
       | ((with_reducible refine gate_d (N := 27) rfl ?_); refine ag_fix (.int .i64 a0_3) (ex_get sT3 gb1 (66) (.int .i64 a0_3) ((pv a0_0 a0_1 a0_2 a0_3)) BKb1.out ((xv_cell (n := 64) LN_a0_0.out 2 66 (by omega)).trans rfl) _ rfl rfl) rfl ?_))
      (try simp only [Act.put, sI, sZ, sS])
      go_ret
      exact ⟨by first | rfl | (simp; done) | (simp [*]; done), HL.out⟩
/-! i_key_man: function 120 -/
def i_key_man.f (a0 : Int) (a1 : Int) : Option (Int) := if a1 = 0 then (some 0) else ((i_key_Mix.f (IntKind.u64.wrap (wrap64 ((wrap64 ((wrap64 (16 * a0)) + (wrap64 (a1)))) + 8)))).bind fun t1 => (some t1))
set_option maxHeartbeats 40000000 in
set_option maxRecDepth 100000 in
theorem i_key_man.calls (a0 : Int) (a1 : Int) (r1 : Int) (w : World) (h : i_key_man.f a0 a1 = some r1) :
    Calls Try.prog 120 #[.int .i64 a0, .int .i8 a1] w fun e w' => e = .returned (.int .u64 r1) ∧ w = w' := by
 have H : (if a1 = 0 then (some 0) else ((i_key_Mix.f (IntKind.u64.wrap (wrap64 ((wrap64 ((wrap64 (16 * a0)) + (wrap64 (a1)))) + 8)))).bind fun t1 => (some t1))) = some r1 := h
 clear h
 by_cases c2 : a1 = 0
 ·
  rw [if_pos c2] at H
  have c2b0 : (a1 == 0) = true := beq_iff_eq.mpr c2
  have c2b1 : (a1 != 0) = false := bne_eq_false_iff_eq.mpr c2
  have hc2 := hid c2
  clear c2
  obtain rfl := Option.some.inj H
  clear H
  go_enter Try.func120, Try.ntmps120
  go_wp2_with fail
  (try simp only [Act.put, sI, sZ, sS])
  go_ret
  exact ⟨by first | rfl | (simp; done) | (simp [*]; done), rfl⟩
 ·
  rw [if_neg c2] at H
  have c2b0 : (a1 == 0) = false := beq_eq_false_iff_ne.mpr c2
  have c2b1 : (a1 != 0) = true := bne_iff_ne.mpr c2
  have hc2 := hid c2
  clear c2
  replace H := Option.bind_eq_some_iff.mp H
  obtain ⟨t1, A3_, H⟩ := H
  have A3 := hid A3_
  clear A3_
  obtain rfl := Option.some.inj H
  clear H
  go_enter Try.func120, Try.ntmps120
  have k4 := True.intro
  go_wp2_with (first
   | (go_at_call 121; clear k4; refine (i_key_Mix.calls (IntKind.u64.wrap (wrap64 ((wrap64 ((wrap64 (16 * a0)) + (wrap64 (a1)))) + 8))) t1 _ A3.out).mono ?_; rintro e_ w' ⟨rfl, rfl⟩))
  (try simp only [Act.put, sI, sZ, sS])
  go_ret
  exact ⟨by first | rfl | (simp; done) | (simp [*]; done), rfl⟩
/-! i_key_Of: function 113 -/
def i_key_Of.l0 : Nat → List Int → Int → Int → Option (Int)
  | 0, _, _, _ => none
  | k + 1, a0_0, x3_0, x10_0 => if x10_0 < 64 then (if 0 ≤ x10_0 then ((i_key_man.f x10_0 (nt a0_0 x10_0.toNat 0)).bind fun t4 => (i_key_Of.l0 k a0_0 (Go.bits .xor .u64 x3_0 t4) (wrap64 (x10_0 + 1)))) else (none)) else (some x3_0)
def i_key_Of.f (k : Nat) (a0_0 : List Int) (a0_1 : Int) (a0_2 : Int) (a0_3 : Int) : Option (Int) := (i_key_rest.f k a0_0 a0_1 a0_2 a0_3).bind fun t2 => (i_key_Of.l0 k a0_0 t2 0)
set_option maxHeartbeats 40000000 in
set_option maxRecDepth 100000 in
theorem i_key_Of.calls (k : Nat) (a0_0 : List Int) (a0_1 : Int) (a0_2 : Int) (a0_3 : Int) (hla0_0 : a0_0.length = 64) (r1 : Int) (w : World) (h : i_key_Of.f k a0_0 a0_1 a0_2 a0_3 = some r1) :
    Calls Try.prog 113 #[.agg (pv a0_0 a0_1 a0_2 a0_3)] w fun e w' => e = .returned (.int .u64 r1) ∧ Below w.heap.size w w' := by
 have LN_a0_0 := hid hla0_0
 clear hla0_0
 have HL := hid (Below.refl w.heap.size w)
 have H : ((i_key_rest.f k a0_0 a0_1 a0_2 a0_3).bind fun t2 => (i_key_Of.l0 k a0_0 t2 0)) = some r1 := h
 clear h
 replace H := Option.bind_eq_some_iff.mp H
 obtain ⟨t2, A5_, H⟩ := H
 have A5 := hid A5_
 clear A5_
 have H' := hid H
 clear H
 go_enter Try.func113, Try.ntmps113
 have k7 := True.intro
 go_wp2_with (first
  | ((with_reducible refine gate_d (N := 1) rfl ?_); obtain ⟨gb1, hgb1⟩ : ∃ g_, w.heap.size = g_ := ⟨_, rfl⟩; refine ag_box (pv a0_0 a0_1 a0_2 a0_3) gb1 hgb1 rfl _ rfl rfl ?_; intro w6 hb_ hB_ hs_; have GEb1 : Hid (w.heap.size ≤ gb1) := hid (by have := HL.out.size; omega); replace HL := hid (HL.out.trans (hb_.mono GEb1.out)); have BKb1 := hid hB_; clear hb_ hB_ hs_ hgb1)
  | ((with_reducible refine gate_d (N := 6) rfl ?_); refine ag_fix (.agg (pv a0_0 a0_1 a0_2 a0_3)) (ex_load posT gb1 0 (pv a0_0 a0_1 a0_2 a0_3) (pv a0_0 a0_1 a0_2 a0_3) BKb1.out (xv_le LN_a0_0.out 67 rfl) (xv_ex LN_a0_0.out 67 rfl) _ rfl rfl) rfl ?_)
  | (go_at_call 119; clear k7; refine (i_key_rest.calls k a0_0 a0_1 a0_2 a0_3 LN_a0_0.out t2 _ A5.out).mono ?_; rintro e_ w8 ⟨rfl, hb_⟩; replace BKb1 := hid (BKb1.out.below hb_ BKb1.out.lt); replace HL := hid (HL.out.trans (hb_.mono HL.out.size)); clear hb_)
  | ((with_reducible refine gate_d (N := 8) rfl ?_); refine ag_fix (.pointer (some ⟨gb1, 0, none⟩)) (ex_field 46 0 (.pointer (some ⟨gb1, 0, none⟩)) (.pointer (some ⟨gb1, 0, none⟩)) (fa46_0_0 gb1) _ rfl rfl) rfl ?_)
  | ((with_reducible refine gate_d (N := 9) rfl ?_); refine ag_fix (.agg (bv a0_0)) (ex_load boardT gb1 0 (pv a0_0 a0_1 a0_2 a0_3) (bv a0_0) BKb1.out (xv_lea LN_a0_0.out) (xv_exa LN_a0_0.out) _ rfl rfl) rfl ?_))
 (try simp only [Act.put, sI, sZ, sS])
 go_loopg [3, 10] k (fun kq v3 v10 w' => ∃ (x3_0 : Int) (x10_0 : Int), v3 = .int .u64 x3_0 ∧ v10 = .int .i64 x10_0 ∧ Hid (i_key_Of.l0 kq a0_0 x3_0 x10_0 = some r1) ∧ Hid (kq ≤ k) ∧ Hid (Blk w' gb1 46 (pv a0_0 a0_1 a0_2 a0_3)) ∧ Hid (Below w.heap.size w w'))
 case atStart => exact ⟨t2, (0 : Int), (by first | rfl | (simp; done) | (simp [*]; done)), (by first | rfl | (simp; done) | (simp [*]; done)), H', (hid (by first | omega | (omega))), (hid (by exact BKb1.out)), HL⟩
 case round =>
  clear H'
  clear HL BKb1
  obtain ⟨x3_0, x10_0, rfl, rfl, HA, HK9, BKb1, HL⟩ := hrel
  cases gk with
  | zero => exact absurd HA.out (by simp [i_key_Of.l0])
  | succ k10 =>
   have H := HA.out
   clear HA
   simp only [i_key_Of.l0] at H
   by_cases c11 : x10_0 < 64
   ·
    rw [if_pos c11] at H
    have c11b0 : decide (x10_0 < 64) = true := decide_eq_true c11
    have hc11 := hid c11
    clear c11
    by_cases c12 : 0 ≤ x10_0
    ·
     rw [if_pos c12] at H
     have c12b0 : decide (0 ≤ x10_0) = true := decide_eq_true c12
     have hc12 := hid c12
     clear c12
     replace H := Option.bind_eq_some_iff.mp H
     obtain ⟨t4, A13_, H⟩ := H
     have A13 := hid A13_
     clear A13_
     have H' := hid H
     clear H
     have k14 := True.intro
     go_wp2_with (first
      | ((with_reducible refine gate_d (N := 13) rfl ?_); refine ag_fix (.int .i8 (nt a0_0 x10_0.toNat 0)) (ex_ix 44 (.agg (bv a0_0)) (.int .i64 x10_0) (.int .i8 (nt a0_0 x10_0.toNat 0)) (fun w_ => run_ixv 42 uT44 sT42 a0_0 LN_a0_0.out 0 x10_0 hc12.out hc11.out w_) _ _ rfl rfl rfl) rfl ?_)
      | (go_at_call 120; clear k14; refine (i_key_man.calls x10_0 (nt a0_0 x10_0.toNat 0) t4 _ A13.out).mono ?_; rintro e_ w' ⟨rfl, rfl⟩))
     (try simp only [Act.put, sI, sZ, sS])
     go_roundg k10
     case measure => have := HK9.out; omega
     case rel => exact ⟨Go.bits .xor .u64 x3_0 t4, wrap64 (x10_0 + 1), (by first | rfl | (simp; done) | (simp [*]; done)), (by first | rfl | (simp; done) | (simp [*]; done)), H', (hid (by first | omega | (have := HK9.out; omega))), (hid (by exact BKb1.out)), HL⟩
    ·
     rw [if_neg c12] at H
     exact absurd H (by simp)
   ·
    rw [if_neg c11] at H
    have c11b0 : decide (x10_0 < 64) = false := decide_eq_false c11
    have hc11 := hid c11
    clear c11
    obtain rfl := Option.some.inj H
    clear H
    go_wp2_with fail
    (try simp only [Act.put, sI, sZ, sS])
    go_ret
    exact ⟨by first | rfl | (simp; done) | (simp [*]; done), HL.out⟩
/-! i_square_Right: function 53 -/
def i_square_Right.f (a0 : Int) : Option (Bool) := if a0 ≥ 0 then (some (decide (a0 < 64))) else (some false)
set_option maxHeartbeats 40000000 in
set_option maxRecDepth 100000 in
theorem i_square_Right.calls (a0 : Int) (r1 : Bool) (w : World) (h : i_square_Right.f a0 = some r1) :
    Calls Try.prog 53 #[.int .i64 a0] w fun e w' => e = .returned (.bool r1) ∧ w = w' := by
 have H : (if a0 ≥ 0 then (some (decide (a0 < 64))) else (some false)) = some r1 := h
 clear h
 by_cases c1 : a0 ≥ 0
 ·
  rw [if_pos c1] at H
  have c1b0 : decide (0 ≤ a0) = true := decide_eq_true c1
  have hc1 := hid c1
  clear c1
  obtain rfl := Option.some.inj H
  clear H
  go_enter Try.func53, Try.ntmps53
  go_wp2_with fail
  (try simp only [Act.put, sI, sZ, sS])
  go_ret
  exact ⟨by first | rfl | (simp; done) | (simp [*]; done), rfl⟩
 ·
  rw [if_neg c1] at H
  have c1b0 : decide (0 ≤ a0) = false := decide_eq_false c1
  have hc1 := hid c1
  clear c1
  obtain rfl := Option.some.inj H
  clear H
  go_enter Try.func53, Try.ntmps53
  go_wp2_with fail
  (try simp only [Act.put, sI, sZ, sS])
  go_ret
  exact ⟨by first | rfl | (simp; done) | (simp [*]; done), rfl⟩
/-! i_square_Flip: function 79 -/
def i_square_Flip.f (a0 : Int) : Option (Int) := (i_square_Right.f a0).bind fun t1 => (if t1 = true then (some (Go.bits .xor .i64 a0 56)) else (some (-1)))
set_option maxHeartbeats 40000000 in
set_option maxRecDepth 100000 in
theorem i_square_Flip.calls (a0 : Int) (r1 : Int) (w : World) (h : i_square_Flip.f a0 = some r1) :
    Calls Try.prog 79 #[.int .i64 a0] w fun e w' => e = .returned (.int .i64 r1) ∧ w = w' := by
 have H : ((i_square_Right.f a0).bind fun t1 => (if t1 = true then (some (Go.bits .xor .i64 a0 56)) else (some (-1)))) = some r1 := h
 clear h
 replace H := Option.bind_eq_some_iff.mp H
 obtain ⟨t1, A2_, H⟩ := H
 have A2 := hid A2_
 clear A2_
 cases t1 with
 | true =>
  rw [if_pos rfl] at H
  obtain rfl := Option.some.inj H
  clear H
  go_enter Try.func79, Try.ntmps79
  have k4 := True.intro
  go_wp2_with (first
   | (go_at_call 53; clear k4; refine (i_square_Right.calls a0 true _ A2.out).mono ?_; rintro e_ w' ⟨rfl, rfl⟩))
  (try simp only [Act.put, sI, sZ, sS])
  go_ret
  exact ⟨by first | rfl | (simp; done) | (simp [*]; done), rfl⟩
 | false =>
  rw [if_neg (show ¬ (false = true) by decide)] at H
  obtain rfl := Option.some.inj H
  clear H
  go_enter Try.func79, Try.ntmps79
  have k5 := True.intro
  go_wp2_with (first
   | (go_at_call 53; clear k5; refine (i_square_Right.calls a0 false _ A2.out).mono ?_; rintro e_ w' ⟨rfl, rfl⟩))
  (try simp only [Act.put, sI, sZ, sS])
  go_ret
  exact ⟨by first | rfl | (simp; done) | (simp [*]; done), rfl⟩
/-! i_board_Turned: function 44 -/
def i_board_Turned.l0 : Nat → List Int → Int → List Int → Option ((List Int))
  | 0, _, _, _ => none
  | k + 1, a0, x7_0, yb3_0_0 => if x7_0 < 64 then (if 0 ≤ x7_0 then ((i_square_Flip.f x7_0).bind fun t5 => (if 0 ≤ t5 then (if t5 < 64 then (i_board_Turned.l0 k a0 (wrap64 (x7_0 + 1)) (yb3_0_0.set t5.toNat (IntKind.i8.wrap (-(nt a0 x7_0.toNat 0))))) else (none)) else (none))) else (none)) else (some yb3_0_0)
def i_board_Turned.f (k : Nat) (a0 : List Int) : Option ((List Int)) := i_board_Turned.l0 k a0 0 zL
set_option maxHeartbeats 40000000 in
set_option maxRecDepth 100000 in
theorem i_board_Turned.calls (k : Nat) (a0 : List Int) (hla0 : a0.length = 64) (r1 : List Int) (w : World) (h : i_board_Turned.f k a0 = some r1) :
    Calls Try.prog 44 #[.agg (bv a0)] w fun e w' => e = .returned (.agg (bv r1)) ∧ r1.length = 64 ∧ Below w.heap.size w w' := by
 have LN_a0 := hid hla0
 clear hla0
 have HL := hid (Below.refl w.heap.size w)
 have H : (i_board_Turned.l0 k a0 0 zL) = some r1 := h
 clear h
 have H' := hid H
 clear H
 go_enter Try.func44, Try.ntmps44
 go_wp2_with (first
  | ((with_reducible refine gate_d (N := 1) rfl ?_); obtain ⟨gb1, hgb1⟩ : ∃ g_, w.heap.size = g_ := ⟨_, rfl⟩; refine ag_box (bv a0) gb1 hgb1 rfl _ rfl rfl ?_; intro w6 hb_ hB_ hs_; have GEb1 : Hid (w.heap.size ≤ gb1) := hid (by have := HL.out.size; omega); replace HL := hid (HL.out.trans (hb_.mono GEb1.out)); have BKb1 := hid hB_; clear hb_ hB_ hs_ hgb1)
  | ((with_reducible refine gate_d (N := 2) rfl ?_); obtain ⟨gb2, hgb2⟩ : ∃ g_, w6.heap.size = g_ := ⟨_, rfl⟩; refine ag_alloc boardT gb2 hgb2 rfl rfl ?_; intro w7 hb_ hB_ hs_; have GEb2 : Hid (w.heap.size ≤ gb2) := hid (by have := HL.out.size; omega); have NBb1_b2 : Hid (gb1 ≠ gb2) := hid (by have := BKb1.out.lt; omega); have NBb2_b1 : Hid (gb2 ≠ gb1) := hid (by have := NBb1_b2.out; omega); replace BKb1 := hid (BKb1.out.below hb_ (by rw [← hgb2]; exact BKb1.out.lt)); replace HL := hid (HL.out.trans (hb_.mono GEb2.out)); have BKb2 := hid hB_; clear hb_ hB_ hs_ hgb2)
  | ((with_reducible refine gate_d (N := 3) rfl ?_); obtain ⟨gb3, hgb3⟩ : ∃ g_, w7.heap.size = g_ := ⟨_, rfl⟩; refine ag_alloc boardT gb3 hgb3 rfl rfl ?_; intro w8 hb_ hB_ hs_; have GEb3 : Hid (w.heap.size ≤ gb3) := hid (by have := HL.out.size; omega); have NBb1_b3 : Hid (gb1 ≠ gb3) := hid (by have := BKb1.out.lt; omega); have NBb3_b1 : Hid (gb3 ≠ gb1) := hid (by have := NBb1_b3.out; omega); replace BKb1 := hid (BKb1.out.below hb_ (by rw [← hgb3]; exact BKb1.out.lt)); have NBb2_b3 : Hid (gb2 ≠ gb3) := hid (by have := BKb2.out.lt; omega); have NBb3_b2 : Hid (gb3 ≠ gb2) := hid (by have := NBb2_b3.out; omega); replace BKb2 := hid (BKb2.out.below hb_ (by rw [← hgb3]; exact BKb2.out.lt)); replace HL := hid (HL.out.trans (hb_.mono GEb3.out)); have BKb3 := hid hB_; clear hb_ hB_ hs_ hgb3)
  | ((with_reducible refine gate_d (N := 6) rfl ?_); refine ag_fix (.agg (bv a0)) (ex_load boardT gb1 0 (bv a0) (bv a0) BKb1.out (av_le LN_a0.out) (av_ex LN_a0.out) _ rfl rfl) rfl ?_))
 (try simp only [Act.put, sI, sZ, sS])
 go_loopg [7] k (fun kq v7 w' => ∃ (x7_0 : Int) (yb3_0_0 : List Int), v7 = .int .i64 x7_0 ∧ Hid (i_board_Turned.l0 kq a0 x7_0 yb3_0_0 = some r1) ∧ Hid (kq ≤ k) ∧ Hid (yb3_0_0.length = 64) ∧ Hid (Blk w' gb1 44 (bv a0)) ∧ Hid (Blk w' gb2 44 (bv zL)) ∧ Hid (Blk w' gb3 44 (bv yb3_0_0)) ∧ Hid (Below w.heap.size w w'))
 case atStart => exact ⟨(0 : Int), zL, (by first | rfl | (simp; done) | (simp [*]; done)), H', (hid (by first | omega | (omega))), (hid (by first | rfl | (simp only [List.length_set, List.length_replicate, zL_len, List.length_cons, List.length_nil, LN_a0.out]; done) | (simp [zL_len, LN_a0.out]; done))), (hid (by exact BKb1.out)), (hid (by exact BKb2.out)), (hid (by exact BKb3.out)), HL⟩
 case round =>
  clear H'
  clear HL BKb1 BKb2 BKb3
  obtain ⟨x7_0, yb3_0_0, rfl, HA, HK9, LN_yb3_0_0, BKb1, BKb2, BKb3, HL⟩ := hrel
  cases gk with
  | zero => exact absurd HA.out (by simp [i_board_Turned.l0])
  | succ k10 =>
   have H := HA.out
   clear HA
   simp only [i_board_Turned.l0] at H
   by_cases c11 : x7_0 < 64
   ·
    rw [if_pos c11] at H
    have c11b0 : decide (x7_0 < 64) = true := decide_eq_true c11
    have hc11 := hid c11
    clear c11
    by_cases c12 : 0 ≤ x7_0
    ·
     rw [if_pos c12] at H
     have c12b0 : decide (0 ≤ x7_0) = true := decide_eq_true c12
     have hc12 := hid c12
     clear c12
     replace H := Option.bind_eq_some_iff.mp H
     obtain ⟨t5, A13_, H⟩ := H
     have A13 := hid A13_
     clear A13_
     by_cases c14 : 0 ≤ t5
     ·
      rw [if_pos c14] at H
      have c14b0 : decide (0 ≤ t5) = true := decide_eq_true c14
      have hc14 := hid c14
      clear c14
      by_cases c15 : t5 < 64
      ·
       rw [if_pos c15] at H
       have c15b0 : decide (t5 < 64) = true := decide_eq_true c15
       have hc15 := hid c15
       clear c15
       have H' := hid H
       clear H
       have k16 := True.intro
       go_wp2_with (first
        | ((with_reducible refine gate_d (N := 10) rfl ?_); refine ag_fix (.int .i8 (nt a0 x7_0.toNat 0)) (ex_ix 44 (.agg (bv a0)) (.int .i64 x7_0) (.int .i8 (nt a0 x7_0.toNat 0)) (fun w_ => run_ixv 42 uT44 sT42 a0 LN_a0.out 0 x7_0 hc12.out hc11.out w_) _ _ rfl rfl rfl) rfl ?_)
        | (go_at_call 79; clear k16; refine (i_square_Flip.calls x7_0 t5 _ A13.out).mono ?_; rintro e_ w' ⟨rfl, rfl⟩)
        | ((with_reducible refine gate_d (N := 15) rfl ?_); refine ag_fix (.pointer (some ⟨gb3, t5.toNat, none⟩)) (ex_at 44 (.pointer (some ⟨gb3, 0, none⟩)) (.int .i64 t5) (.pointer (some ⟨gb3, t5.toNat, none⟩)) (fun w_ => (run_atv 42 uT44 sT42.size gb3 0 t5 hc14.out hc15.out w_).trans (by simp)) _ _ rfl rfl rfl) rfl ?_)
        | ((with_reducible refine gate_s (t := 42) (p := 15) rfl ?_); refine ag_set sT42 gb3 (t5.toNat) (.int .i8 (IntKind.i8.wrap (-(nt a0 x7_0.toNat 0)))) (bv yb3_0_0) (bv (yb3_0_0.set t5.toNat (IntKind.i8.wrap (-(nt a0 x7_0.toNat 0))))) BKb3.out (by rw [show (bv yb3_0_0) = av (Value.int .i8) yb3_0_0 from rfl, av_size]; exact (by have h_ : yb3_0_0.length = 64 := LN_yb3_0_0.out; have h1_ := hc14.out; have h2_ := hc15.out; omega)) rfl rfl (av_set _ _) rfl _ _ rfl rfl rfl ?_; intro w17 ho_ hB_; replace BKb1 := hid (BKb1.out.off ho_ NBb1_b3.out); replace BKb2 := hid (BKb2.out.off ho_ NBb2_b3.out); replace HL := hid (ho_.below HL.out GEb3.out); replace BKb3 := hid hB_; clear ho_ hB_))
       (try simp only [Act.put, sI, sZ, sS])
       go_roundg k10
       case measure => have := HK9.out; omega
       case rel => exact ⟨wrap64 (x7_0 + 1), yb3_0_0.set t5.toNat (IntKind.i8.wrap (-(nt a0 x7_0.toNat 0))), (by first | rfl | (simp; done) | (simp [*]; done)), H', (hid (by first | omega | (have := HK9.out; omega))), (hid (by first | rfl | (simp only [List.length_set, List.length_replicate, zL_len, List.length_cons, List.length_nil, LN_a0.out, LN_yb3_0_0.out]; done) | (simp [zL_len, LN_a0.out, LN_yb3_0_0.out]; done))), (hid (by exact BKb1.out)), (hid (by exact BKb2.out)), (hid (by exact BKb3.out)), HL⟩
      ·
       rw [if_neg c15] at H
       exact absurd H (by simp)
     ·
      rw [if_neg c14] at H
      exact absurd H (by simp)
    ·
     rw [if_neg c12] at H
     exact absurd H (by simp)
   ·
    rw [if_neg c11] at H
    have c11b0 : decide (x7_0 < 64) = false := decide_eq_false c11
    have hc11 := hid c11
    clear c11
    obtain rfl := Option.some.inj H
    clear H
    go_wp2_with (first
     | ((with_reducible refine gate_d (N := 17) rfl ?_); refine ag_fix (.agg (bv yb3_0_0)) (ex_load boardT gb3 0 (bv yb3_0_0) (bv yb3_0_0) BKb3.out (av_le LN_yb3_0_0.out) (av_ex LN_yb3_0_0.out) _ rfl rfl) rfl ?_)
     | ((with_reducible refine gate_s (t := 44) (p := 2) rfl ?_); refine ag_store boardT gb2 0 (bv zL) (bv yb3_0_0) (bv yb3_0_0) BKb2.out (by rw [show (bv yb3_0_0) = av (Value.int .i8) yb3_0_0 from rfl, av_size]; exact LN_yb3_0_0.out) (av_le zL_len) (av_one (fun _ => rfl)) (av_put zL_len LN_yb3_0_0.out) rfl _ _ rfl rfl rfl ?_; intro w18 ho_ hB_; replace BKb1 := hid (BKb1.out.off ho_ NBb1_b2.out); replace BKb3 := hid (BKb3.out.off ho_ NBb3_b2.out); replace HL := hid (ho_.below HL.out GEb2.out); replace BKb2 := hid hB_; clear ho_ hB_))
    (try simp only [Act.put, sI, sZ, sS])
    refine bodyPost_ret (v := .agg (bv yb3_0_0)) (res_c boardT rfl _ gb2 (bv yb3_0_0) BKb2.out (by rw [show (bv yb3_0_0) = av (Value.int .i8) yb3_0_0 from rfl, av_size]; exact LN_yb3_0_0.out) rfl) rfl ?_
    exact ⟨by first | rfl | (simp; done) | (simp [*]; done), LN_yb3_0_0.out, HL.out⟩
/-! i_board_First: function 59 -/
mutual
def i_board_First.l0 : Nat → Int → List Int → Option ((List Int))
  | 0, _, _ => none
  | k + 1, x8_0, yb2_0_0 => if x8_0 < 8 then (if 0 ≤ x8_0 then (if x8_0 < 64 then (if 0 ≤ (wrap64 (8 + x8_0)) then (if (wrap64 (8 + x8_0)) < 64 then (i_board_First.l0 k (wrap64 (x8_0 + 1)) ((yb2_0_0.set x8_0.toNat (nt [4, 2, 3, 5, 6, 3, 2, 4] x8_0.toNat 0)).set (wrap64 (8 + x8_0)).toNat 1)) else (none)) else (none)) else (none)) else (none)) else ((i_board_Turned.f k yb2_0_0).bind fun t5 => (i_board_First.l1 k t5 0 yb2_0_0))
def i_board_First.l1 : Nat → List Int → Int → List Int → Option ((List Int))
  | 0, _, _, _ => none
  | k + 1, t5, x22_1, yb2_0_1 => if x22_1 < 64 then (if 0 ≤ x22_1 then (if (nt t5 x22_1.toNat 0) = 0 then (i_board_First.l1 k t5 (wrap64 (x22_1 + 1)) yb2_0_1) else (i_board_First.l1 k t5 (wrap64 (x22_1 + 1)) (yb2_0_1.set x22_1.toNat (nt t5 x22_1.toNat 0)))) else (none)) else (some yb2_0_1)
end
def i_board_First.f (k : Nat)  : Option ((List Int)) := i_board_First.l0 k 0 zL
set_option maxHeartbeats 40000000 in
set_option maxRecDepth 100000 in
theorem i_board_First.calls (k : Nat) (r1 : List Int) (w : World) (h : i_board_First.f k = some r1) :
    Calls Try.prog 59 #[] w fun e w' => e = .returned (.agg (bv r1)) ∧ r1.length = 64 ∧ Below w.heap.size w w' := by
 have HL := hid (Below.refl w.heap.size w)
 have H : (i_board_First.l0 k 0 zL) = some r1 := h
 clear h
 have H' := hid H
 clear H
 go_enter Try.func59, Try.ntmps59
 go_wp2_with (first
  | ((with_reducible refine gate_d (N := 0) rfl ?_); obtain ⟨gb1, hgb1⟩ : ∃ g_, w.heap.size = g_ := ⟨_, rfl⟩; refine ag_alloc boardT gb1 hgb1 rfl rfl ?_; intro w7 hb_ hB_ hs_; have GEb1 : Hid (w.heap.size ≤ gb1) := hid (by have := HL.out.size; omega); replace HL := hid (HL.out.trans (hb_.mono GEb1.out)); have BKb1 := hid hB_; clear hb_ hB_ hs_ hgb1)
  | ((with_reducible refine gate_d (N := 1) rfl ?_); obtain ⟨gb2, hgb2⟩ : ∃ g_, w7.heap.size = g_ := ⟨_, rfl⟩; refine ag_alloc boardT gb2 hgb2 rfl rfl ?_; intro w8 hb_ hB_ hs_; have GEb2 : Hid (w.heap.size ≤ gb2) := hid (by have := HL.out.size; omega); have NBb1_b2 : Hid (gb1 ≠ gb2) := hid (by have := BKb1.out.lt; omega); have NBb2_b1 : Hid (gb2 ≠ gb1) := hid (by have := NBb1_b2.out; omega); replace BKb1 := hid (BKb1.out.below hb_ (by rw [← hgb2]; exact BKb1.out.lt)); replace HL := hid (HL.out.trans (hb_.mono GEb2.out)); have BKb2 := hid hB_; clear hb_ hB_ hs_ hgb2)
  | ((with_reducible refine gate_d (N := 7) rfl ?_); refine ag_build (.agg (bv [4, 2, 3, 5, 6, 3, 2, 4])) _ rfl rfl ?_ ?_; (intro ww_; simp only [List.map_toArray, List.map_cons, List.map_nil]; kernel_rfl)))
 (try simp only [Act.put, sI, sZ, sS])
 go_loopg [8] k (fun kq v8 w' => ∃ (x8_0 : Int) (yb2_0_0 : List Int), v8 = .int .i64 x8_0 ∧ Hid (i_board_First.l0 kq x8_0 yb2_0_0 = some r1) ∧ Hid (kq ≤ k) ∧ Hid (yb2_0_0.length = 64) ∧ Hid (Blk w' gb1 44 (bv zL)) ∧ Hid (Blk w' gb2 44 (bv yb2_0_0)) ∧ Hid (Below w.heap.size w w'))
 case atStart => exact ⟨(0 : Int), zL, (by first | rfl | (simp; done) | (simp [*]; done)), H', (hid (by first | omega | (omega))), (hid (by first | rfl | (simp only [List.length_set, List.length_replicate, zL_len, List.length_cons, List.length_nil]; done) | (simp [zL_len]; done))), (hid (by exact BKb1.out)), (hid (by exact BKb2.out)), HL⟩
 case round =>
  clear H'
  clear HL BKb1 BKb2
  obtain ⟨x8_0, yb2_0_0, rfl, HA, HK9, LN_yb2_0_0, BKb1, BKb2, HL⟩ := hrel
  cases gk with
  | zero => exact absurd HA.out (by simp [i_board_First.l0])
  | succ k10 =>
   have H := HA.out
   clear HA
   simp only [i_board_First.l0] at H
   by_cases c11 : x8_0 < 8
   ·
    rw [if_pos c11] at H
    have c11b0 : decide (x8_0 < 8) = true := decide_eq_true c11
    have hc11 := hid c11
    clear c11
    by_cases c12 : 0 ≤ x8_0
    ·
     rw [if_pos c12] at H
     have c12b0 : decide (0 ≤ x8_0) = true := decide_eq_true c12
     have hc12 := hid c12
     clear c12
     by_cases c13 : x8_0 < 64
     ·
      rw [if_pos c13] at H
      have c13b0 : decide (x8_0 < 64) = true := decide_eq_true c13
      have hc13 := hid c13
      clear c13
      by_cases c14 : 0 ≤ (wrap64 (8 + x8_0))
      ·
       rw [if_pos c14] at H
       have c14b0 : decide (0 ≤ (wrap64 (8 + x8_0))) = true := decide_eq_true c14
       have hc14 := hid c14
       clear c14
       by_cases c15 : (wrap64 (8 + x8_0)) < 64
       ·
        rw [if_pos c15] at H
        have c15b0 : decide ((wrap64 (8 + x8_0)) < 64) = true := decide_eq_true c15
        have hc15 := hid c15
        clear c15
        have H' := hid H
        clear H
        go_wp2_with (first
         | ((with_reducible refine gate_d (N := 11) rfl ?_); refine ag_fix (.int .i8 (nt [4, 2, 3, 5, 6, 3, 2, 4] x8_0.toNat 0)) (ex_ix 129 (.agg (bv [4, 2, 3, 5, 6, 3, 2, 4])) (.int .i64 x8_0) (.int .i8 (nt [4, 2, 3, 5, 6, 3, 2, 4] x8_0.toNat 0)) (fun w_ => run_ixv 42 uT129 sT42 [4, 2, 3, 5, 6, 3, 2, 4] (by first | rfl | (simp only [List.length_set, List.length_replicate, zL_len, List.length_cons, List.length_nil, LN_yb2_0_0.out]; done) | (simp [zL_len, LN_yb2_0_0.out]; done)) 0 x8_0 hc12.out hc11.out w_) _ _ rfl rfl rfl) rfl ?_)
         | ((with_reducible refine gate_d (N := 16) rfl ?_); refine ag_fix (.pointer (some ⟨gb2, x8_0.toNat, none⟩)) (ex_at 44 (.pointer (some ⟨gb2, 0, none⟩)) (.int .i64 x8_0) (.pointer (some ⟨gb2, x8_0.toNat, none⟩)) (fun w_ => (run_atv 42 uT44 sT42.size gb2 0 x8_0 hc12.out hc13.out w_).trans (by simp)) _ _ rfl rfl rfl) rfl ?_)
         | ((with_reducible refine gate_s (t := 42) (p := 16) rfl ?_); refine ag_set sT42 gb2 (x8_0.toNat) (.int .i8 (nt [4, 2, 3, 5, 6, 3, 2, 4] x8_0.toNat 0)) (bv yb2_0_0) (bv (yb2_0_0.set x8_0.toNat (nt [4, 2, 3, 5, 6, 3, 2, 4] x8_0.toNat 0))) BKb2.out (by rw [show (bv yb2_0_0) = av (Value.int .i8) yb2_0_0 from rfl, av_size]; exact (by have h_ : yb2_0_0.length = 64 := LN_yb2_0_0.out; have h1_ := hc12.out; have h2_ := hc13.out; omega)) rfl rfl (av_set _ _) rfl _ _ rfl rfl rfl ?_; intro w16 ho_ hB_; replace BKb1 := hid (BKb1.out.off ho_ NBb1_b2.out); replace HL := hid (ho_.below HL.out GEb2.out); replace BKb2 := hid hB_; clear ho_ hB_)
         | ((with_reducible refine gate_d (N := 17) rfl ?_); refine ag_fix (.pointer (some ⟨gb2, (wrap64 (8 + x8_0)).toNat, none⟩)) (ex_at 44 (.pointer (some ⟨gb2, 0, none⟩)) (.int .i64 (wrap64 (8 + x8_0))) (.pointer (some ⟨gb2, (wrap64 (8 + x8_0)).toNat, none⟩)) (fun w_ => (run_atv 42 uT44 sT42.size gb2 0 (wrap64 (8 + x8_0)) hc14.out hc15.out w_).trans (by simp)) _ _ rfl rfl rfl) rfl ?_)
         | ((with_reducible refine gate_s (t := 42) (p := 17) rfl ?_); refine ag_set sT42 gb2 ((wrap64 (8 + x8_0)).toNat) (.int .i8 1) (bv (yb2_0_0.set x8_0.toNat (nt [4, 2, 3, 5, 6, 3, 2, 4] x8_0.toNat 0))) (bv ((yb2_0_0.set x8_0.toNat (nt [4, 2, 3, 5, 6, 3, 2, 4] x8_0.toNat 0)).set (wrap64 (8 + x8_0)).toNat 1)) BKb2.out (by rw [show (bv (yb2_0_0.set x8_0.toNat (nt [4, 2, 3, 5, 6, 3, 2, 4] x8_0.toNat 0))) = av (Value.int .i8) (yb2_0_0.set x8_0.toNat (nt [4, 2, 3, 5, 6, 3, 2, 4] x8_0.toNat 0)) from rfl, av_size]; exact (by have h_ : (yb2_0_0.set x8_0.toNat (nt [4, 2, 3, 5, 6, 3, 2, 4] x8_0.toNat 0)).length = 64 := (by first | rfl | (simp only [List.length_set, List.length_replicate, zL_len, List.length_cons, List.length_nil, LN_yb2_0_0.out]; done) | (simp [zL_len, LN_yb2_0_0.out]; done)); have h1_ := hc14.out; have h2_ := hc15.out; omega)) rfl rfl (av_set _ _) rfl _ _ rfl rfl rfl ?_; intro w17 ho_ hB_; replace BKb1 := hid (BKb1.out.off ho_ NBb1_b2.out); replace HL := hid (ho_.below HL.out GEb2.out); replace BKb2 := hid hB_; clear ho_ hB_))
        (try simp only [Act.put, sI, sZ, sS])
        go_roundg k10
        case measure => have := HK9.out; omega
        case rel => exact ⟨wrap64 (x8_0 + 1), (yb2_0_0.set x8_0.toNat (nt [4, 2, 3, 5, 6, 3, 2, 4] x8_0.toNat 0)).set (wrap64 (8 + x8_0)).toNat 1, (by first | rfl | (simp; done) | (simp [*]; done)), H', (hid (by first | omega | (have := HK9.out; omega))), (hid (by first | rfl | (simp only [List.length_set, List.length_replicate, zL_len, List.length_cons, List.length_nil, LN_yb2_0_0.out]; done) | (simp [zL_len, LN_yb2_0_0.out]; done))), (hid (by exact BKb1.out)), (hid (by exact BKb2.out)), HL⟩
       ·
        rw [if_neg c15] at H
        exact absurd H (by simp)
      ·
       rw [if_neg c14] at H
       exact absurd H (by simp)
     ·
      rw [if_neg c13] at H
      exact absurd H (by simp)
    ·
     rw [if_neg c12] at H
     exact absurd H (by simp)
   ·
    rw [if_neg c11] at H
    have c11b0 : decide (x8_0 < 8) = false := decide_eq_false c11
    have hc11 := hid c11
    clear c11
    replace H := Option.bind_eq_some_iff.mp H
    obtain ⟨t5, A18_, H⟩ := H
    have A18 := hid A18_
    clear A18_
    have H' := hid H
    clear H
    have k19 := True.intro
    go_wp2_with (first
     | ((with_reducible refine gate_d (N := 19) rfl ?_); refine ag_fix (.agg (bv yb2_0_0)) (ex_load boardT gb2 0 (bv yb2_0_0) (bv yb2_0_0) BKb2.out (av_le LN_yb2_0_0.out) (av_ex LN_yb2_0_0.out) _ rfl rfl) rfl ?_)
     | (go_at_call 44; clear k19; refine (i_board_Turned.calls k10 yb2_0_0 LN_yb2_0_0.out t5 _ A18.out).mono ?_; rintro e_ w20 ⟨rfl, ln_t5, hb_⟩; have LN_t5 := hid ln_t5; clear ln_t5; replace BKb1 := hid (BKb1.out.below hb_ BKb1.out.lt); replace BKb2 := hid (BKb2.out.below hb_ BKb2.out.lt); replace HL := hid (HL.out.trans (hb_.mono HL.out.size)); clear hb_)
     | ((with_reducible refine gate_d (N := 4) rfl ?_); obtain ⟨gb6, hgb6⟩ : ∃ g_, w20.heap.size = g_ := ⟨_, rfl⟩; refine ag_alloc boardT gb6 hgb6 rfl rfl ?_; intro w21 hb_ hB_ hs_; have GEb6 : Hid (w.heap.size ≤ gb6) := hid (by have := HL.out.size; omega); have NBb1_b6 : Hid (gb1 ≠ gb6) := hid (by have := BKb1.out.lt; omega); have NBb6_b1 : Hid (gb6 ≠ gb1) := hid (by have := NBb1_b6.out; omega); replace BKb1 := hid (BKb1.out.below hb_ (by rw [← hgb6]; exact BKb1.out.lt)); have NBb2_b6 : Hid (gb2 ≠ gb6) := hid (by have := BKb2.out.lt; omega); have NBb6_b2 : Hid (gb6 ≠ gb2) := hid (by have := NBb2_b6.out; omega); replace BKb2 := hid (BKb2.out.below hb_ (by rw [← hgb6]; exact BKb2.out.lt)); replace HL := hid (HL.out.trans (hb_.mono GEb6.out)); have BKb6 := hid hB_; clear hb_ hB_ hs_ hgb6)
     | ((with_reducible refine gate_s (t := 44) (p := 4) rfl ?_); refine ag_store boardT gb6 0 (bv zL) (bv t5) (bv t5) BKb6.out (by rw [show (bv t5) = av (Value.int .i8) t5 from rfl, av_size]; exact LN_t5.out) (av_le zL_len) (av_one (fun _ => rfl)) (av_put zL_len LN_t5.out) rfl _ _ rfl rfl rfl ?_; intro w22 ho_ hB_; replace BKb1 := hid (BKb1.out.off ho_ NBb1_b6.out); replace BKb2 := hid (BKb2.out.off ho_ NBb2_b6.out); replace HL := hid (ho_.below HL.out GEb6.out); replace BKb6 := hid hB_; clear ho_ hB_)
     | ((with_reducible refine gate_d (N := 21) rfl ?_); refine ag_fix (.agg (bv t5)) (ex_load boardT gb6 0 (bv t5) (bv t5) BKb6.out (av_le LN_t5.out) (av_ex LN_t5.out) _ rfl rfl) rfl ?_))
    (try simp only [Act.put, sI, sZ, sS])
    go_loopg [22] k10 (fun kq v22 w' => ∃ (x22_1 : Int) (yb2_0_1 : List Int), v22 = .int .i64 x22_1 ∧ Hid (i_board_First.l1 kq t5 x22_1 yb2_0_1 = some r1) ∧ Hid (kq ≤ k10) ∧ Hid (yb2_0_1.length = 64) ∧ Hid (Blk w' gb1 44 (bv zL)) ∧ Hid (Blk w' gb2 44 (bv yb2_0_1)) ∧ Hid (Blk w' gb6 44 (bv t5)) ∧ Hid (Below w.heap.size w w'))
    case atStart => exact ⟨(0 : Int), yb2_0_0, (by first | rfl | (simp; done) | (simp [*]; done)), H', (hid (by first | omega | (have := HK9.out; omega))), (hid (by first | rfl | (simp only [List.length_set, List.length_replicate, zL_len, List.length_cons, List.length_nil, LN_yb2_0_0.out, LN_t5.out]; done) | (simp [zL_len, LN_yb2_0_0.out, LN_t5.out]; done))), (hid (by exact BKb1.out)), (hid (by exact BKb2.out)), (hid (by exact BKb6.out)), HL⟩
    case round =>
     clear H'
     clear HL BKb1 BKb2 BKb6
     obtain ⟨x22_1, yb2_0_1, rfl, HA, HK23, LN_yb2_0_1, BKb1, BKb2, BKb6, HL⟩ := hrel
     cases gk with
     | zero => exact absurd HA.out (by simp [i_board_First.l1])
     | succ k24 =>
      have H := HA.out
      clear HA
      simp only [i_board_First.l1] at H
      by_cases c25 : x22_1 < 64
      ·
       rw [if_pos c25] at H
       have c25b0 : decide (x22_1 < 64) = true := decide_eq_true c25
       have hc25 := hid c25
       clear c25
       by_cases c26 : 0 ≤ x22_1
       ·
        rw [if_pos c26] at H
        have c26b0 : decide (0 ≤ x22_1) = true := decide_eq_true c26
        have hc26 := hid c26
        clear c26
        by_cases c27 : (nt t5 x22_1.toNat 0) = 0
        ·
         rw [if_pos c27] at H
         have c27b0 : ((nt t5 x22_1.toNat 0) == 0) = true := beq_iff_eq.mpr c27
         have c27b1 : ((nt t5 x22_1.toNat 0) != 0) = false := bne_eq_false_iff_eq.mpr c27
         have hc27 := hid c27
         clear c27
         have H' := hid H
         clear H
         go_wp2_with (first
          | ((with_reducible refine gate_d (N := 25) rfl ?_); refine ag_fix (.int .i8 (nt t5 x22_1.toNat 0)) (ex_ix 44 (.agg (bv t5)) (.int .i64 x22_1) (.int .i8 (nt t5 x22_1.toNat 0)) (fun w_ => run_ixv 42 uT44 sT42 t5 LN_t5.out 0 x22_1 hc26.out hc25.out w_) _ _ rfl rfl rfl) rfl ?_))
         (try simp only [Act.put, sI, sZ, sS])
         go_roundg k24
         case measure => have := HK9.out; have := HK23.out; omega
         case rel => exact ⟨wrap64 (x22_1 + 1), yb2_0_1, (by first | rfl | (simp; done) | (simp [*]; done)), H', (hid (by first | omega | (have := HK9.out; have := HK23.out; omega))), (hid (by first | rfl | (simp only [List.length_set, List.length_replicate, zL_len, List.length_cons, List.length_nil, LN_yb2_0_0.out, LN_t5.out, LN_yb2_0_1.out]; done) | (simp [zL_len, LN_yb2_0_0.out, LN_t5.out, LN_yb2_0_1.out]; done))), (hid (by exact BKb1.out)), (hid (by exact BKb2.out)), (hid (by exact BKb6.out)), HL⟩
        ·
         rw [if_neg c27] at H
         have c27b0 : ((nt t5 x22_1.toNat 0) == 0) = false := beq_eq_false_iff_ne.mpr c27
         have c27b1 : ((nt t5 x22_1.toNat 0) != 0) = true := bne_iff_ne.mpr c27
         have hc27 := hid c27
         clear c27
         have H' := hid H
         clear H
         go_wp2_with (first
          | ((with_reducible refine gate_d (N := 25) rfl ?_); refine ag_fix (.int .i8 (nt t5 x22_1.toNat 0)) (ex_ix 44 (.agg (bv t5)) (.int .i64 x22_1) (.int .i8 (nt t5 x22_1.toNat 0)) (fun w_ => run_ixv 42 uT44 sT42 t5 LN_t5.out 0 x22_1 hc26.out hc25.out w_) _ _ rfl rfl rfl) rfl ?_)
          | ((with_reducible refine gate_d (N := 30) rfl ?_); refine ag_fix (.pointer (some ⟨gb2, x22_1.toNat, none⟩)) (ex_at 44 (.pointer (some ⟨gb2, 0, none⟩)) (.int .i64 x22_1) (.pointer (some ⟨gb2, x22_1.toNat, none⟩)) (fun w_ => (run_atv 42 uT44 sT42.size gb2 0 x22_1 hc26.out hc25.out w_).trans (by simp)) _ _ rfl rfl rfl) rfl ?_)
          | ((with_reducible refine gate_s (t := 42) (p := 30) rfl ?_); refine ag_set sT42 gb2 (x22_1.toNat) (.int .i8 (nt t5 x22_1.toNat 0)) (bv yb2_0_1) (bv (yb2_0_1.set x22_1.toNat (nt t5 x22_1.toNat 0))) BKb2.out (by rw [show (bv yb2_0_1) = av (Value.int .i8) yb2_0_1 from rfl, av_size]; exact (by have h_ : yb2_0_1.length = 64 := LN_yb2_0_1.out; have h1_ := hc26.out; have h2_ := hc25.out; omega)) rfl rfl (av_set _ _) rfl _ _ rfl rfl rfl ?_; intro w28 ho_ hB_; replace BKb1 := hid (BKb1.out.off ho_ NBb1_b2.out); replace BKb6 := hid (BKb6.out.off ho_ NBb6_b2.out); replace HL := hid (ho_.below HL.out GEb2.out); replace BKb2 := hid hB_; clear ho_ hB_))
         (try simp only [Act.put, sI, sZ, sS])
         go_roundg k24
         case measure => have := HK9.out; have := HK23.out; omega
         case rel => exact ⟨wrap64 (x22_1 + 1), yb2_0_1.set x22_1.toNat (nt t5 x22_1.toNat 0), (by first | rfl | (simp; done) | (simp [*]; done)), H', (hid (by first | omega | (have := HK9.out; have := HK23.out; omega))), (hid (by first | rfl | (simp only [List.length_set, List.length_replicate, zL_len, List.length_cons, List.length_nil, LN_yb2_0_0.out, LN_t5.out, LN_yb2_0_1.out]; done) | (simp [zL_len, LN_yb2_0_0.out, LN_t5.out, LN_yb2_0_1.out]; done))), (hid (by exact BKb1.out)), (hid (by exact BKb2.out)), (hid (by exact BKb6.out)), HL⟩
       ·
        rw [if_neg c26] at H
        exact absurd H (by simp)
      ·
       rw [if_neg c25] at H
       have c25b0 : decide (x22_1 < 64) = false := decide_eq_false c25
       have hc25 := hid c25
       clear c25
       obtain rfl := Option.some.inj H
       clear H
       go_wp2_with (first
        | ((with_reducible refine gate_d (N := 32) rfl ?_); refine ag_fix (.agg (bv yb2_0_1)) (ex_load boardT gb2 0 (bv yb2_0_1) (bv yb2_0_1) BKb2.out (av_le LN_yb2_0_1.out) (av_ex LN_yb2_0_1.out) _ rfl rfl) rfl ?_)
        | ((with_reducible refine gate_s (t := 44) (p := 0) rfl ?_); refine ag_store boardT gb1 0 (bv zL) (bv yb2_0_1) (bv yb2_0_1) BKb1.out (by rw [show (bv yb2_0_1) = av (Value.int .i8) yb2_0_1 from rfl, av_size]; exact LN_yb2_0_1.out) (av_le zL_len) (av_one (fun _ => rfl)) (av_put zL_len LN_yb2_0_1.out) rfl _ _ rfl rfl rfl ?_; intro w29 ho_ hB_; replace BKb2 := hid (BKb2.out.off ho_ NBb2_b1.out); replace BKb6 := hid (BKb6.out.off ho_ NBb6_b1.out); replace HL := hid (ho_.below HL.out GEb1.out); replace BKb1 := hid hB_; clear ho_ hB_))
       (try simp only [Act.put, sI, sZ, sS])
       refine bodyPost_ret (v := .agg (bv yb2_0_1)) (res_c boardT rfl _ gb1 (bv yb2_0_1) BKb1.out (by rw [show (bv yb2_0_1) = av (Value.int .i8) yb2_0_1 from rfl, av_size]; exact LN_yb2_0_1.out) rfl) rfl ?_
       exact ⟨by first | rfl | (simp; done) | (simp [*]; done), LN_yb2_0_1.out, HL.out⟩
/-! i_pos_none: function 80 -/
def i_pos_none.f  : Option ((List Int) × Int × Int × Int) := some (zL, 0, 0, (-1))
set_option maxHeartbeats 40000000 in
set_option maxRecDepth 100000 in
theorem i_pos_none.calls (r1 : List Int) (r2 : Int) (r3 : Int) (r4 : Int) (w : World) (h : i_pos_none.f = some (r1, r2, r3, r4)) :
    Calls Try.prog 80 #[] w fun e w' => e = .returned (.agg (pv r1 r2 r3 r4)) ∧ r1.length = 64 ∧ Below w.heap.size w w' := by
 have HL := hid (Below.refl w.heap.size w)
 have H : (some (zL, 0, 0, (-1))) = some (r1, r2, r3, r4) := h
 clear h
 simp only [Option.some.injEq, Prod.mk.injEq] at H
 obtain ⟨rfl, rfl, rfl, rfl⟩ := H
 go_enter Try.func80, Try.ntmps80
 go_wp2_with (first
  | ((with_reducible refine gate_d (N := 0) rfl ?_); obtain ⟨gb1, hgb1⟩ : ∃ g_, w.heap.size = g_ := ⟨_, rfl⟩; refine ag_alloc posT gb1 hgb1 rfl rfl ?_; intro w2 hb_ hB_ hs_; have GEb1 : Hid (w.heap.size ≤ gb1) := hid (by have := HL.out.size; omega); replace HL := hid (HL.out.trans (hb_.mono GEb1.out)); have BKb1 := hid hB_; clear hb_ hB_ hs_ hgb1)
  | ((with_reducible refine gate_d (N := 1) rfl ?_); refine ag_build (.agg (pv zL 0 0 (-1))) _ rfl rfl ?_ ?_; (intro ww_; simp only [List.map_toArray, List.map_cons, List.map_nil]; kernel_rfl))
  | ((with_reducible refine gate_s (t := 46) (p := 0) rfl ?_); refine ag_store posT gb1 0 (pv zL 0 0 0) (pv zL 0 0 (-1)) (pv zL 0 0 (-1)) BKb1.out (by rw [show (pv zL 0 0 (-1)) = xv (Value.int .i8) zL [.int .i64 0, .int .i64 0, .int .i64 (-1)] from rfl, xv_size, show zL.length = 64 from zL_len]; rfl) (xv_le zL_len 67 rfl) (xv_one (fun _ => rfl) (by intro v_ hv_; simp at hv_; rcases hv_ with rfl | rfl | rfl <;> rfl)) (xv_put zL_len zL_len rfl) rfl _ _ rfl rfl rfl ?_; intro w3 ho_ hB_; replace HL := hid (ho_.below HL.out GEb1.out); replace BKb1 := hid hB_; clear ho_ hB_))
 (try simp only [Act.put, sI, sZ, sS])
 refine bodyPost_ret (v := .agg (pv zL 0 0 (-1))) (res_c posT rfl _ gb1 (pv zL 0 0 (-1)) BKb1.out ((xv_size).trans (by rw [show zL.length = 64 from zL_len]; rfl)) rfl) rfl ?_
 exact ⟨by first | rfl | (simp; done) | (simp [*]; done), zL_len, HL.out⟩
/-! i_pos_First: function 45 -/
def i_pos_First.f (k : Nat)  : Option ((List Int) × Int × Int × Int) := (i_pos_none.f).bind fun bt2 => ((i_board_First.f k).bind fun t7 => (some (t7, bt2.2.1, 15, bt2.2.2.2)))
set_option maxHeartbeats 40000000 in
set_option maxRecDepth 100000 in
theorem i_pos_First.calls (k : Nat) (r1 : List Int) (r2 : Int) (r3 : Int) (r4 : Int) (w : World) (h : i_pos_First.f k = some (r1, r2, r3, r4)) :
    Calls Try.prog 45 #[] w fun e w' => e = .returned (.agg (pv r1 r2 r3 r4)) ∧ r1.length = 64 ∧ Below w.heap.size w w' := by
 have HL := hid (Below.refl w.heap.size w)
 have H : ((i_pos_none.f).bind fun bt2 => ((i_board_First.f k).bind fun t7 => (some (t7, bt2.2.1, 15, bt2.2.2.2)))) = some (r1, r2, r3, r4) := h
 clear h
 replace H := Option.bind_eq_some_iff.mp H
 obtain ⟨⟨t2, t3, t4, t5⟩, A8_, H⟩ := H
 dsimp only at H
 have A8 := hid A8_
 clear A8_
 replace H := Option.bind_eq_some_iff.mp H
 obtain ⟨t7, A9_, H⟩ := H
 have A9 := hid A9_
 clear A9_
 simp only [Option.some.injEq, Prod.mk.injEq] at H
 obtain ⟨rfl, rfl, rfl, rfl⟩ := H
 go_enter Try.func45, Try.ntmps45
 have k11 := True.intro
 have k15 := True.intro
 go_wp2_with (first
  | ((with_reducible refine gate_d (N := 0) rfl ?_); obtain ⟨gb1, hgb1⟩ : ∃ g_, w.heap.size = g_ := ⟨_, rfl⟩; refine ag_alloc posT gb1 hgb1 rfl rfl ?_; intro w10 hb_ hB_ hs_; have GEb1 : Hid (w.heap.size ≤ gb1) := hid (by have := HL.out.size; omega); replace HL := hid (HL.out.trans (hb_.mono GEb1.out)); have BKb1 := hid hB_; clear hb_ hB_ hs_ hgb1)
  | (go_at_call 80; clear k11; refine (i_pos_none.calls t2 t3 t4 t5 _ A8.out).mono ?_; rintro e_ w12 ⟨rfl, ln_t2, hb_⟩; have LN_t2 := hid ln_t2; clear ln_t2; replace BKb1 := hid (BKb1.out.below hb_ BKb1.out.lt); replace HL := hid (HL.out.trans (hb_.mono HL.out.size)); clear hb_)
  | ((with_reducible refine gate_d (N := 1) rfl ?_); obtain ⟨gb6, hgb6⟩ : ∃ g_, w12.heap.size = g_ := ⟨_, rfl⟩; refine ag_alloc posT gb6 hgb6 rfl rfl ?_; intro w13 hb_ hB_ hs_; have GEb6 : Hid (w.heap.size ≤ gb6) := hid (by have := HL.out.size; omega); have NBb1_b6 : Hid (gb1 ≠ gb6) := hid (by have := BKb1.out.lt; omega); have NBb6_b1 : Hid (gb6 ≠ gb1) := hid (by have := NBb1_b6.out; omega); replace BKb1 := hid (BKb1.out.below hb_ (by rw [← hgb6]; exact BKb1.out.lt)); replace HL := hid (HL.out.trans (hb_.mono GEb6.out)); have BKb6 := hid hB_; clear hb_ hB_ hs_ hgb6)
  | ((with_reducible refine gate_s (t := 46) (p := 1) rfl ?_); refine ag_store posT gb6 0 (pv zL 0 0 0) (pv t2 t3 t4 t5) (pv t2 t3 t4 t5) BKb6.out (by rw [show (pv t2 t3 t4 t5) = xv (Value.int .i8) t2 [.int .i64 t3, .int .i64 t4, .int .i64 t5] from rfl, xv_size, show t2.length = 64 from LN_t2.out]; rfl) (xv_le zL_len 67 rfl) (xv_one (fun _ => rfl) (by intro v_ hv_; simp at hv_; rcases hv_ with rfl | rfl | rfl <;> rfl)) (xv_put zL_len LN_t2.out rfl) rfl _ _ rfl rfl rfl ?_; intro w14 ho_ hB_; replace BKb1 := hid (BKb1.out.off ho_ NBb1_b6.out); replace HL := hid (ho_.below HL.out GEb6.out); replace BKb6 := hid hB_; clear ho_ hB_)
  | (go_at_call 59; clear k15; refine (i_board_First.calls k t7 _ A9.out).mono ?_; rintro e_ w16 ⟨rfl, ln_t7, hb_⟩; have LN_t7 := hid ln_t7; clear ln_t7; replace BKb1 := hid (BKb1.out.below hb_ BKb1.out.lt); replace BKb6 := hid (BKb6.out.below hb_ BKb6.out.lt); replace HL := hid (HL.out.trans (hb_.mono HL.out.size)); clear hb_)
  | ((with_reducible refine gate_d (N := 4) rfl ?_); refine ag_fix (.pointer (some ⟨gb6, 0, none⟩)) (ex_field 46 0 (.pointer (some ⟨gb6, 0, none⟩)) (.pointer (some ⟨gb6, 0, none⟩)) (fa46_0_0 gb6) _ rfl rfl) rfl ?_)
  | ((with_reducible refine gate_s (t := 44) (p := 4) rfl ?_); refine ag_store boardT gb6 0 (pv t2 t3 t4 t5) (bv t7) (pv t7 t3 t4 t5) BKb6.out (by rw [show (bv t7) = av (Value.int .i8) t7 from rfl, av_size]; exact LN_t7.out) (xv_lea LN_t2.out) (av_one (fun _ => rfl)) (xv_puta LN_t2.out LN_t7.out) rfl _ _ rfl rfl rfl ?_; intro w17 ho_ hB_; replace BKb1 := hid (BKb1.out.off ho_ NBb1_b6.out); replace HL := hid (ho_.below HL.out GEb6.out); replace BKb6 := hid hB_; clear ho_ hB_)
  | ((with_reducible refine gate_d (N := 5) rfl ?_); refine ag_fix (.pointer (some ⟨gb6, 65, none⟩)) (ex_field 46 2 (.pointer (some ⟨gb6, 0, none⟩)) (.pointer (some ⟨gb6, 65, none⟩)) (fa46_2_0 gb6) _ rfl rfl) rfl ?_)
  | ((with_reducible refine gate_s (t := 3) (p := 5) rfl ?_); refine ag_set sT3 gb6 (65) (.int .i64 15) (pv t7 t3 t4 t5) (pv t7 t3 15 t5) BKb6.out (by rw [show (pv t7 t3 t4 t5) = xv (Value.int .i8) t7 [.int .i64 t3, .int .i64 t4, .int .i64 t5] from rfl, xv_size, show t7.length = 64 from LN_t7.out]; simp) rfl rfl ((xv_setc (n := 64) LN_t7.out 1 65 (by omega) _).trans rfl) rfl _ _ rfl rfl rfl ?_; intro w18 ho_ hB_; replace BKb1 := hid (BKb1.out.off ho_ NBb1_b6.out); replace HL := hid (ho_.below HL.out GEb6.out); replace BKb6 := hid hB_; clear ho_ hB_)
  | ((with_reducible refine gate_d (N := 6) rfl ?_); refine ag_fix (.agg (pv t7 t3 15 t5)) (ex_load posT gb6 0 (pv t7 t3 15 t5) (pv t7 t3 15 t5) BKb6.out (xv_le LN_t7.out 67 rfl) (xv_ex LN_t7.out 67 rfl) _ rfl rfl) rfl ?_)
  | ((with_reducible refine gate_s (t := 46) (p := 0) rfl ?_); refine ag_store posT gb1 0 (pv zL 0 0 0) (pv t7 t3 15 t5) (pv t7 t3 15 t5) BKb1.out (by rw [show (pv t7 t3 15 t5) = xv (Value.int .i8) t7 [.int .i64 t3, .int .i64 15, .int .i64 t5] from rfl, xv_size, show t7.length = 64 from LN_t7.out]; rfl) (xv_le zL_len 67 rfl) (xv_one (fun _ => rfl) (by intro v_ hv_; simp at hv_; rcases hv_ with rfl | rfl | rfl <;> rfl)) (xv_put zL_len LN_t7.out rfl) rfl _ _ rfl rfl rfl ?_; intro w19 ho_ hB_; replace BKb6 := hid (BKb6.out.off ho_ NBb6_b1.out); replace HL := hid (ho_.below HL.out GEb1.out); replace BKb1 := hid hB_; clear ho_ hB_))
 (try simp only [Act.put, sI, sZ, sS])
 refine bodyPost_ret (v := .agg (pv t7 t3 15 t5)) (res_c posT rfl _ gb1 (pv t7 t3 15 t5) BKb1.out ((xv_size).trans (by rw [show t7.length = 64 from LN_t7.out]; rfl)) rfl) rfl ?_
 exact ⟨by first | rfl | (simp; done) | (simp [*]; done), LN_t7.out, HL.out⟩
/-! i_alfillaw18_at: function 25 -/
def i_alfillaw18_at.f (k : Nat) (a0 : Int) : Option ((List Int) × Int × Int × Int) := (i_pos_First.f k).bind fun bt2 => (some (bt2.1, Go.bits .and .i64 a0 1, Go.bits .and .i64 (a0 / 2) 15, Go.bits .and .i64 (a0 / 32) 63))
set_option maxHeartbeats 40000000 in
set_option maxRecDepth 100000 in
theorem i_alfillaw18_at.calls (k : Nat) (a0 : Int) (r1 : List Int) (r2 : Int) (r3 : Int) (r4 : Int) (w : World) (h : i_alfillaw18_at.f k a0 = some (r1, r2, r3, r4)) :
    Calls Try.prog 25 #[.int .i64 a0] w fun e w' => e = .returned (.agg (pv r1 r2 r3 r4)) ∧ r1.length = 64 ∧ Below w.heap.size w w' := by
 have HL := hid (Below.refl w.heap.size w)
 have H : ((i_pos_First.f k).bind fun bt2 => (some (bt2.1, Go.bits .and .i64 a0 1, Go.bits .and .i64 (a0 / 2) 15, Go.bits .and .i64 (a0 / 32) 63))) = some (r1, r2, r3, r4) := h
 clear h
 replace H := Option.bind_eq_some_iff.mp H
 obtain ⟨⟨t2, t3, t4, t5⟩, A7_, H⟩ := H
 dsimp only at H
 have A7 := hid A7_
 clear A7_
 simp only [Option.some.injEq, Prod.mk.injEq] at H
 obtain ⟨rfl, rfl, rfl, rfl⟩ := H
 go_enter Try.func25, Try.ntmps25
 have k9 := True.intro
 go_wp2_with (first
  | ((with_reducible refine gate_d (N := 2) rfl ?_); obtain ⟨gb1, hgb1⟩ : ∃ g_, w.heap.size = g_ := ⟨_, rfl⟩; refine ag_alloc posT gb1 hgb1 rfl rfl ?_; intro w8 hb_ hB_ hs_; have GEb1 : Hid (w.heap.size ≤ gb1) := hid (by have := HL.out.size; omega); replace HL := hid (HL.out.trans (hb_.mono GEb1.out)); have BKb1 := hid hB_; clear hb_ hB_ hs_ hgb1)
  | (go_at_call 45; clear k9; refine (i_pos_First.calls k t2 t3 t4 t5 _ A7.out).mono ?_; rintro e_ w10 ⟨rfl, ln_t2, hb_⟩; have LN_t2 := hid ln_t2; clear ln_t2; replace BKb1 := hid (BKb1.out.below hb_ BKb1.out.lt); replace HL := hid (HL.out.trans (hb_.mono HL.out.size)); clear hb_)
  | ((with_reducible refine gate_d (N := 3) rfl ?_); obtain ⟨gb6, hgb6⟩ : ∃ g_, w10.heap.size = g_ := ⟨_, rfl⟩; refine ag_alloc posT gb6 hgb6 rfl rfl ?_; intro w11 hb_ hB_ hs_; have GEb6 : Hid (w.heap.size ≤ gb6) := hid (by have := HL.out.size; omega); have NBb1_b6 : Hid (gb1 ≠ gb6) := hid (by have := BKb1.out.lt; omega); have NBb6_b1 : Hid (gb6 ≠ gb1) := hid (by have := NBb1_b6.out; omega); replace BKb1 := hid (BKb1.out.below hb_ (by rw [← hgb6]; exact BKb1.out.lt)); replace HL := hid (HL.out.trans (hb_.mono GEb6.out)); have BKb6 := hid hB_; clear hb_ hB_ hs_ hgb6)
  | ((with_reducible refine gate_s (t := 46) (p := 3) rfl ?_); refine ag_store posT gb6 0 (pv zL 0 0 0) (pv t2 t3 t4 t5) (pv t2 t3 t4 t5) BKb6.out (by rw [show (pv t2 t3 t4 t5) = xv (Value.int .i8) t2 [.int .i64 t3, .int .i64 t4, .int .i64 t5] from rfl, xv_size, show t2.length = 64 from LN_t2.out]; rfl) (xv_le zL_len 67 rfl) (xv_one (fun _ => rfl) (by intro v_ hv_; simp at hv_; rcases hv_ with rfl | rfl | rfl <;> rfl)) (xv_put zL_len LN_t2.out rfl) rfl _ _ rfl rfl rfl ?_; intro w12 ho_ hB_; replace BKb1 := hid (BKb1.out.off ho_ NBb1_b6.out); replace HL := hid (ho_.below HL.out GEb6.out); replace BKb6 := hid hB_; clear ho_ hB_)
  | ((with_reducible refine gate_d (N := 13) rfl ?_); refine ag_fix (.pointer (some ⟨gb6, 64, none⟩)) (ex_field 46 1 (.pointer (some ⟨gb6, 0, none⟩)) (.pointer (some ⟨gb6, 64, none⟩)) (fa46_1_0 gb6) _ rfl rfl) rfl ?_)
  | ((with_reducible refine gate_s (t := 3) (p := 13) rfl ?_); refine ag_set sT3 gb6 (64) (.int .i64 (Go.bits .and .i64 a0 1)) (pv t2 t3 t4 t5) (pv t2 (Go.bits .and .i64 a0 1) t4 t5) BKb6.out (by rw [show (pv t2 t3 t4 t5) = xv (Value.int .i8) t2 [.int .i64 t3, .int .i64 t4, .int .i64 t5] from rfl, xv_size, show t2.length = 64 from LN_t2.out]; simp) rfl rfl ((xv_setc (n := 64) LN_t2.out 0 64 (by omega) _).trans rfl) rfl _ _ rfl rfl rfl ?_; intro w13 ho_ hB_; replace BKb1 := hid (BKb1.out.off ho_ NBb1_b6.out); replace HL := hid (ho_.below HL.out GEb6.out); replace BKb6 := hid hB_; clear ho_ hB_)
  | ((with_reducible refine gate_d (N := 14) rfl ?_); refine ag_fix (.pointer (some ⟨gb6, 65, none⟩)) (ex_field 46 2 (.pointer (some ⟨gb6, 0, none⟩)) (.pointer (some ⟨gb6, 65, none⟩)) (fa46_2_0 gb6) _ rfl rfl) rfl ?_)
  | ((with_reducible refine gate_s (t := 3) (p := 14) rfl ?_); refine ag_set sT3 gb6 (65) (.int .i64 (Go.bits .and .i64 (a0 / 2) 15)) (pv t2 (Go.bits .and .i64 a0 1) t4 t5) (pv t2 (Go.bits .and .i64 a0 1) (Go.bits .and .i64 (a0 / 2) 15) t5) BKb6.out (by rw [show (pv t2 (Go.bits .and .i64 a0 1) t4 t5) = xv (Value.int .i8) t2 [.int .i64 (Go.bits .and .i64 a0 1), .int .i64 t4, .int .i64 t5] from rfl, xv_size, show t2.length = 64 from LN_t2.out]; simp) rfl rfl ((xv_setc (n := 64) LN_t2.out 1 65 (by omega) _).trans rfl) rfl _ _ rfl rfl rfl ?_; intro w14 ho_ hB_; replace BKb1 := hid (BKb1.out.off ho_ NBb1_b6.out); replace HL := hid (ho_.below HL.out GEb6.out); replace BKb6 := hid hB_; clear ho_ hB_)
  | ((with_reducible refine gate_d (N := 15) rfl ?_); refine ag_fix (.pointer (some ⟨gb6, 66, none⟩)) (ex_field 46 3 (.pointer (some ⟨gb6, 0, none⟩)) (.pointer (some ⟨gb6, 66, none⟩)) (fa46_3_0 gb6) _ rfl rfl) rfl ?_)
  | ((with_reducible refine gate_s (t := 3) (p := 15) rfl ?_); refine ag_set sT3 gb6 (66) (.int .i64 (Go.bits .and .i64 (a0 / 32) 63)) (pv t2 (Go.bits .and .i64 a0 1) (Go.bits .and .i64 (a0 / 2) 15) t5) (pv t2 (Go.bits .and .i64 a0 1) (Go.bits .and .i64 (a0 / 2) 15) (Go.bits .and .i64 (a0 / 32) 63)) BKb6.out (by rw [show (pv t2 (Go.bits .and .i64 a0 1) (Go.bits .and .i64 (a0 / 2) 15) t5) = xv (Value.int .i8) t2 [.int .i64 (Go.bits .and .i64 a0 1), .int .i64 (Go.bits .and .i64 (a0 / 2) 15), .int .i64 t5] from rfl, xv_size, show t2.length = 64 from LN_t2.out]; simp) rfl rfl ((xv_setc (n := 64) LN_t2.out 2 66 (by omega) _).trans rfl) rfl _ _ rfl rfl rfl ?_; intro w15 ho_ hB_; replace BKb1 := hid (BKb1.out.off ho_ NBb1_b6.out); replace HL := hid (ho_.below HL.out GEb6.out); replace BKb6 := hid hB_; clear ho_ hB_)
  | ((with_reducible refine gate_d (N := 16) rfl ?_); refine ag_fix (.agg (pv t2 (Go.bits .and .i64 a0 1) (Go.bits .and .i64 (a0 / 2) 15) (Go.bits .and .i64 (a0 / 32) 63))) (ex_load posT gb6 0 (pv t2 (Go.bits .and .i64 a0 1) (Go.bits .and .i64 (a0 / 2) 15) (Go.bits .and .i64 (a0 / 32) 63)) (pv t2 (Go.bits .and .i64 a0 1) (Go.bits .and .i64 (a0 / 2) 15) (Go.bits .and .i64 (a0 / 32) 63)) BKb6.out (xv_le LN_t2.out 67 rfl) (xv_ex LN_t2.out 67 rfl) _ rfl rfl) rfl ?_)
  | ((with_reducible refine gate_s (t := 46) (p := 2) rfl ?_); refine ag_store posT gb1 0 (pv zL 0 0 0) (pv t2 (Go.bits .and .i64 a0 1) (Go.bits .and .i64 (a0 / 2) 15) (Go.bits .and .i64 (a0 / 32) 63)) (pv t2 (Go.bits .and .i64 a0 1) (Go.bits .and .i64 (a0 / 2) 15) (Go.bits .and .i64 (a0 / 32) 63)) BKb1.out (by rw [show (pv t2 (Go.bits .and .i64 a0 1) (Go.bits .and .i64 (a0 / 2) 15) (Go.bits .and .i64 (a0 / 32) 63)) = xv (Value.int .i8) t2 [.int .i64 (Go.bits .and .i64 a0 1), .int .i64 (Go.bits .and .i64 (a0 / 2) 15), .int .i64 (Go.bits .and .i64 (a0 / 32) 63)] from rfl, xv_size, show t2.length = 64 from LN_t2.out]; rfl) (xv_le zL_len 67 rfl) (xv_one (fun _ => rfl) (by intro v_ hv_; simp at hv_; rcases hv_ with rfl | rfl | rfl <;> rfl)) (xv_put zL_len LN_t2.out rfl) rfl _ _ rfl rfl rfl ?_; intro w16 ho_ hB_; replace BKb6 := hid (BKb6.out.off ho_ NBb6_b1.out); replace HL := hid (ho_.below HL.out GEb1.out); replace BKb1 := hid hB_; clear ho_ hB_))
 (try simp only [Act.put, sI, sZ, sS])
 refine bodyPost_ret (v := .agg (pv t2 (Go.bits .and .i64 a0 1) (Go.bits .and .i64 (a0 / 2) 15) (Go.bits .and .i64 (a0 / 32) 63))) (res_c posT rfl _ gb1 (pv t2 (Go.bits .and .i64 a0 1) (Go.bits .and .i64 (a0 / 2) 15) (Go.bits .and .i64 (a0 / 32) 63)) BKb1.out ((xv_size).trans (by rw [show t2.length = 64 from LN_t2.out]; rfl)) rfl) rfl ?_
 exact ⟨by first | rfl | (simp; done) | (simp [*]; done), LN_t2.out, HL.out⟩
end Go.Proofs.Ytpjocgebnodnoaa
