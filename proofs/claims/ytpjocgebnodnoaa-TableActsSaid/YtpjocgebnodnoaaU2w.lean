/- The walk of the reference for keys. -/
import Derived.Test.YtpjocgebnodnoaaProg
import Derived.Test.YtpjocgebnodnoaaU1w
import Derived.Test.YtpjocgebnodnoaaRs
namespace Go.Proofs.Ytpjocgebnodnoaa
open Go.RowKit
set_option linter.unusedVariables false
set_option linter.unusedSimpArgs false
set_option maxRecDepth 100000

/-! i_alfilref17_Mix: function 114 -/
def i_alfilref17_Mix.f (a0 : Int) : Option (Int) := some (Go.bits .xor .u64 (IntKind.u64.wrap ((Go.bits .xor .u64 (IntKind.u64.wrap ((Go.bits .xor .u64 (IntKind.u64.wrap ((IntKind.u64.wrap (a0 + 1)) * 11400714819323198485)) (IntKind.u64.wrap (Int.tdiv (IntKind.u64.wrap ((IntKind.u64.wrap (a0 + 1)) * 11400714819323198485)) 1073741824))) * 13787848793156543929)) (IntKind.u64.wrap (Int.tdiv (IntKind.u64.wrap ((Go.bits .xor .u64 (IntKind.u64.wrap ((IntKind.u64.wrap (a0 + 1)) * 11400714819323198485)) (IntKind.u64.wrap (Int.tdiv (IntKind.u64.wrap ((IntKind.u64.wrap (a0 + 1)) * 11400714819323198485)) 1073741824))) * 13787848793156543929)) 134217728))) * 10723151780598845931)) (IntKind.u64.wrap (Int.tdiv (IntKind.u64.wrap ((Go.bits .xor .u64 (IntKind.u64.wrap ((Go.bits .xor .u64 (IntKind.u64.wrap ((IntKind.u64.wrap (a0 + 1)) * 11400714819323198485)) (IntKind.u64.wrap (Int.tdiv (IntKind.u64.wrap ((IntKind.u64.wrap (a0 + 1)) * 11400714819323198485)) 1073741824))) * 13787848793156543929)) (IntKind.u64.wrap (Int.tdiv (IntKind.u64.wrap ((Go.bits .xor .u64 (IntKind.u64.wrap ((IntKind.u64.wrap (a0 + 1)) * 11400714819323198485)) (IntKind.u64.wrap (Int.tdiv (IntKind.u64.wrap ((IntKind.u64.wrap (a0 + 1)) * 11400714819323198485)) 1073741824))) * 13787848793156543929)) 134217728))) * 10723151780598845931)) 2147483648)))
set_option maxHeartbeats 40000000 in
set_option maxRecDepth 100000 in
theorem i_alfilref17_Mix.calls (a0 : Int) (r1 : Int) (w : World) (h : i_alfilref17_Mix.f a0 = some r1) :
    Calls Try.prog 114 #[.int .u64 a0] w fun e w' => e = .returned (.int .u64 r1) ∧ w = w' := by
 have H : (some (Go.bits .xor .u64 (IntKind.u64.wrap ((Go.bits .xor .u64 (IntKind.u64.wrap ((Go.bits .xor .u64 (IntKind.u64.wrap ((IntKind.u64.wrap (a0 + 1)) * 11400714819323198485)) (IntKind.u64.wrap (Int.tdiv (IntKind.u64.wrap ((IntKind.u64.wrap (a0 + 1)) * 11400714819323198485)) 1073741824))) * 13787848793156543929)) (IntKind.u64.wrap (Int.tdiv (IntKind.u64.wrap ((Go.bits .xor .u64 (IntKind.u64.wrap ((IntKind.u64.wrap (a0 + 1)) * 11400714819323198485)) (IntKind.u64.wrap (Int.tdiv (IntKind.u64.wrap ((IntKind.u64.wrap (a0 + 1)) * 11400714819323198485)) 1073741824))) * 13787848793156543929)) 134217728))) * 10723151780598845931)) (IntKind.u64.wrap (Int.tdiv (IntKind.u64.wrap ((Go.bits .xor .u64 (IntKind.u64.wrap ((Go.bits .xor .u64 (IntKind.u64.wrap ((IntKind.u64.wrap (a0 + 1)) * 11400714819323198485)) (IntKind.u64.wrap (Int.tdiv (IntKind.u64.wrap ((IntKind.u64.wrap (a0 + 1)) * 11400714819323198485)) 1073741824))) * 13787848793156543929)) (IntKind.u64.wrap (Int.tdiv (IntKind.u64.wrap ((Go.bits .xor .u64 (IntKind.u64.wrap ((IntKind.u64.wrap (a0 + 1)) * 11400714819323198485)) (IntKind.u64.wrap (Int.tdiv (IntKind.u64.wrap ((IntKind.u64.wrap (a0 + 1)) * 11400714819323198485)) 1073741824))) * 13787848793156543929)) 134217728))) * 10723151780598845931)) 2147483648)))) = some r1 := h
 clear h
 obtain rfl := Option.some.inj H
 clear H
 go_enter Try.func114, Try.ntmps114
 go_wp2_with fail
 (try simp only [Act.put, sI, sZ, sS])
 go_ret
 exact ⟨by first | rfl | (simp; done) | (simp [*]; done), rfl⟩
/-! i_alfilref17_Of: function 98 -/
mutual
def i_alfilref17_Of.l0 : Nat → List Int → Int → Int → Int → Int → Int → Option (Int)
  | 0, _, _, _, _, _, _ => none
  | k + 1, a0_0, a0_1, a0_2, a0_3, x3_0, x4_0 => if x4_0 < 64 then (if 0 ≤ x4_0 then (if (nt a0_0 x4_0.toNat 0) = 0 then (i_alfilref17_Of.l0 k a0_0 a0_1 a0_2 a0_3 x3_0 (wrap64 (x4_0 + 1))) else ((i_alfilref17_Mix.f (IntKind.u64.wrap (wrap64 ((wrap64 ((wrap64 (16 * x4_0)) + (wrap64 (nt a0_0 x4_0.toNat 0)))) + 8)))).bind fun t12 => (i_alfilref17_Of.l0 k a0_0 a0_1 a0_2 a0_3 (Go.bits .xor .u64 x3_0 t12) (wrap64 (x4_0 + 1))))) else (none)) else (if a0_1 = 1 then ((i_alfilref17_Mix.f 1024).bind fun t13 => (i_alfilref17_Of.l1 k a0_2 a0_3 (Go.bits .xor .u64 x3_0 t13) 1)) else (i_alfilref17_Of.l2 k a0_2 a0_3 x3_0 1))
def i_alfilref17_Of.l1 : Nat → Int → Int → Int → Int → Option (Int)
  | 0, _, _, _, _ => none
  | k + 1, a0_2, a0_3, x3_1, x5_1 => if x5_1 ≤ 8 then (if (Go.bits .and .i64 a0_2 x5_1) = 0 then (i_alfilref17_Of.l1 k a0_2 a0_3 x3_1 (wrap64 (2 * x5_1))) else ((i_alfilref17_Mix.f (IntKind.u64.wrap (wrap64 (1032 + x5_1)))).bind fun t16 => (i_alfilref17_Of.l1 k a0_2 a0_3 (Go.bits .xor .u64 x3_1 t16) (wrap64 (2 * x5_1))))) else (if a0_3 ≥ 0 then ((i_alfilref17_Mix.f (IntKind.u64.wrap (1056 + (IntKind.u64.wrap (a0_3))))).bind fun t17 => (some (Go.bits .xor .u64 x3_1 t17))) else (some x3_1))
def i_alfilref17_Of.l2 : Nat → Int → Int → Int → Int → Option (Int)
  | 0, _, _, _, _ => none
  | k + 1, a0_2, a0_3, x3_2, x5_2 => if x5_2 ≤ 8 then (if (Go.bits .and .i64 a0_2 x5_2) = 0 then (i_alfilref17_Of.l2 k a0_2 a0_3 x3_2 (wrap64 (2 * x5_2))) else ((i_alfilref17_Mix.f (IntKind.u64.wrap (wrap64 (1032 + x5_2)))).bind fun t20 => (i_alfilref17_Of.l2 k a0_2 a0_3 (Go.bits .xor .u64 x3_2 t20) (wrap64 (2 * x5_2))))) else (if a0_3 ≥ 0 then ((i_alfilref17_Mix.f (IntKind.u64.wrap (1056 + (IntKind.u64.wrap (a0_3))))).bind fun t21 => (some (Go.bits .xor .u64 x3_2 t21))) else (some x3_2))
end
def i_alfilref17_Of.f (k : Nat) (a0_0 : List Int) (a0_1 : Int) (a0_2 : Int) (a0_3 : Int) : Option (Int) := i_alfilref17_Of.l0 k a0_0 a0_1 a0_2 a0_3 0 0
set_option maxHeartbeats 40000000 in
set_option maxRecDepth 100000 in
theorem i_alfilref17_Of.calls (k : Nat) (a0_0 : List Int) (a0_1 : Int) (a0_2 : Int) (a0_3 : Int) (hla0_0 : a0_0.length = 64) (r1 : Int) (w : World) (h : i_alfilref17_Of.f k a0_0 a0_1 a0_2 a0_3 = some r1) :
    Calls Try.prog 98 #[.agg (pv a0_0 a0_1 a0_2 a0_3)] w fun e w' => e = .returned (.int .u64 r1) ∧ Below w.heap.size w w' := by
 have LN_a0_0 := hid hla0_0
 clear hla0_0
 have HL := hid (Below.refl w.heap.size w)
 have H : (i_alfilref17_Of.l0 k a0_0 a0_1 a0_2 a0_3 0 0) = some r1 := h
 clear h
 have H' := hid H
 clear H
 go_enter Try.func98, Try.ntmps98
 go_wp2_with (first
  | ((with_reducible refine gate_d (N := 1) rfl ?_); obtain ⟨gb1, hgb1⟩ : ∃ g_, w.heap.size = g_ := ⟨_, rfl⟩; refine ag_box (pv a0_0 a0_1 a0_2 a0_3) gb1 hgb1 rfl _ rfl rfl ?_; intro w22 hb_ hB_ hs_; have GEb1 : Hid (w.heap.size ≤ gb1) := hid (by have := HL.out.size; omega); replace HL := hid (HL.out.trans (hb_.mono GEb1.out)); have BKb1 := hid hB_; clear hb_ hB_ hs_ hgb1))
 (try simp only [Act.put, sI, sZ, sS])
 go_loopg [3, 4] k (fun kq v3 v4 w' => ∃ (x3_0 : Int) (x4_0 : Int), v3 = .int .u64 x3_0 ∧ v4 = .int .i64 x4_0 ∧ Hid (i_alfilref17_Of.l0 kq a0_0 a0_1 a0_2 a0_3 x3_0 x4_0 = some r1) ∧ Hid (kq ≤ k) ∧ Hid (Blk w' gb1 46 (pv a0_0 a0_1 a0_2 a0_3)) ∧ Hid (Below w.heap.size w w'))
 case atStart => exact ⟨(0 : Int), (0 : Int), (by first | rfl | (simp; done) | (simp [*]; done)), (by first | rfl | (simp; done) | (simp [*]; done)), H', (hid (by first | omega | (omega))), (hid (by exact BKb1.out)), HL⟩
 case round =>
  clear H'
  clear HL BKb1
  obtain ⟨x3_0, x4_0, rfl, rfl, HA, HK23, BKb1, HL⟩ := hrel
  cases gk with
  | zero => exact absurd HA.out (by simp [i_alfilref17_Of.l0])
  | succ k24 =>
   have H := HA.out
   clear HA
   simp only [i_alfilref17_Of.l0] at H
   by_cases c25 : x4_0 < 64
   ·
    rw [if_pos c25] at H
    have c25b0 : decide (x4_0 < 64) = true := decide_eq_true c25
    have hc25 := hid c25
    clear c25
    by_cases c26 : 0 ≤ x4_0
    ·
     rw [if_pos c26] at H
     have c26b0 : decide (0 ≤ x4_0) = true := decide_eq_true c26
     have hc26 := hid c26
     clear c26
     by_cases c27 : (nt a0_0 x4_0.toNat 0) = 0
     ·
      rw [if_pos c27] at H
      have c27b0 : ((nt a0_0 x4_0.toNat 0) == 0) = true := beq_iff_eq.mpr c27
      have c27b1 : ((nt a0_0 x4_0.toNat 0) != 0) = false := bne_eq_false_iff_eq.mpr c27
      have hc27 := hid c27
      clear c27
      have H' := hid H
      clear H
      go_wp2_with (first
       | ((with_reducible refine gate_d (N := 11) rfl ?_); refine ag_fix (.pointer (some ⟨gb1, 0, none⟩)) (ex_field 46 0 (.pointer (some ⟨gb1, 0, none⟩)) (.pointer (some ⟨gb1, 0, none⟩)) (fa46_0_0 gb1) _ rfl rfl) rfl ?_)
       | ((with_reducible refine gate_d (N := 12) rfl ?_); refine ag_fix (.pointer (some ⟨gb1, x4_0.toNat, none⟩)) (ex_at 44 (.pointer (some ⟨gb1, 0, none⟩)) (.int .i64 x4_0) (.pointer (some ⟨gb1, x4_0.toNat, none⟩)) (fun w_ => (run_atv 42 uT44 sT42.size gb1 0 x4_0 hc26.out hc25.out w_).trans (by simp)) _ _ rfl rfl rfl) rfl ?_)
       | ((with_reducible refine gate_d (N := 13) rfl ?_); refine ag_fix (.int .i8 (nt a0_0 x4_0.toNat 0)) (ex_get sT42 gb1 (x4_0.toNat) (.int .i8 (nt a0_0 x4_0.toNat 0)) ((pv a0_0 a0_1 a0_2 a0_3)) BKb1.out (xv_elem 0 (by have h_ : a0_0.length = 64 := LN_a0_0.out; have h1_ := hc26.out; have h2_ := hc25.out; omega)) _ rfl rfl) rfl ?_))
      (try simp only [Act.put, sI, sZ, sS])
      go_roundg k24
      case measure => have := HK23.out; omega
      case rel => exact ⟨x3_0, wrap64 (x4_0 + 1), (by first | rfl | (simp; done) | (simp [*]; done)), (by first | rfl | (simp; done) | (simp [*]; done)), H', (hid (by first | omega | (have := HK23.out; omega))), (hid (by exact BKb1.out)), HL⟩
     ·
      rw [if_neg c27] at H
      have c27b0 : ((nt a0_0 x4_0.toNat 0) == 0) = false := beq_eq_false_iff_ne.mpr c27
      have c27b1 : ((nt a0_0 x4_0.toNat 0) != 0) = true := bne_iff_ne.mpr c27
      have hc27 := hid c27
      clear c27
      replace H := Option.bind_eq_some_iff.mp H
      obtain ⟨t12, A28_, H⟩ := H
      have A28 := hid A28_
      clear A28_
      have H' := hid H
      clear H
      have k29 := True.intro
      go_wp2_with (first
       | ((with_reducible refine gate_d (N := 11) rfl ?_); refine ag_fix (.pointer (some ⟨gb1, 0, none⟩)) (ex_field 46 0 (.pointer (some ⟨gb1, 0, none⟩)) (.pointer (some ⟨gb1, 0, none⟩)) (fa46_0_0 gb1) _ rfl rfl) rfl ?_)
       | ((with_reducible refine gate_d (N := 12) rfl ?_); refine ag_fix (.pointer (some ⟨gb1, x4_0.toNat, none⟩)) (ex_at 44 (.pointer (some ⟨gb1, 0, none⟩)) (.int .i64 x4_0) (.pointer (some ⟨gb1, x4_0.toNat, none⟩)) (fun w_ => (run_atv 42 uT44 sT42.size gb1 0 x4_0 hc26.out hc25.out w_).trans (by simp)) _ _ rfl rfl rfl) rfl ?_)
       | ((with_reducible refine gate_d (N := 13) rfl ?_); refine ag_fix (.int .i8 (nt a0_0 x4_0.toNat 0)) (ex_get sT42 gb1 (x4_0.toNat) (.int .i8 (nt a0_0 x4_0.toNat 0)) ((pv a0_0 a0_1 a0_2 a0_3)) BKb1.out (xv_elem 0 (by have h_ : a0_0.length = 64 := LN_a0_0.out; have h1_ := hc26.out; have h2_ := hc25.out; omega)) _ rfl rfl) rfl ?_)
       | ((with_reducible refine gate_d (N := 19) rfl ?_); refine ag_fix (.pointer (some ⟨gb1, 0, none⟩)) (ex_field 46 0 (.pointer (some ⟨gb1, 0, none⟩)) (.pointer (some ⟨gb1, 0, none⟩)) (fa46_0_0 gb1) _ rfl rfl) rfl ?_)
       | ((with_reducible refine gate_d (N := 20) rfl ?_); refine ag_fix (.pointer (some ⟨gb1, x4_0.toNat, none⟩)) (ex_at 44 (.pointer (some ⟨gb1, 0, none⟩)) (.int .i64 x4_0) (.pointer (some ⟨gb1, x4_0.toNat, none⟩)) (fun w_ => (run_atv 42 uT44 sT42.size gb1 0 x4_0 hc26.out hc25.out w_).trans (by simp)) _ _ rfl rfl rfl) rfl ?_)
       | ((with_reducible refine gate_d (N := 21) rfl ?_); refine ag_fix (.int .i8 (nt a0_0 x4_0.toNat 0)) (ex_get sT42 gb1 (x4_0.toNat) (.int .i8 (nt a0_0 x4_0.toNat 0)) ((pv a0_0 a0_1 a0_2 a0_3)) BKb1.out (xv_elem 0 (by have h_ : a0_0.length = 64 := LN_a0_0.out; have h1_ := hc26.out; have h2_ := hc25.out; omega)) _ rfl rfl) rfl ?_)
       | (go_at_call 114; clear k29; refine (i_alfilref17_Mix.calls (IntKind.u64.wrap (wrap64 ((wrap64 ((wrap64 (16 * x4_0)) + (wrap64 (nt a0_0 x4_0.toNat 0)))) + 8))) t12 _ A28.out).mono ?_; rintro e_ w' ⟨rfl, rfl⟩))
      (try simp only [Act.put, sI, sZ, sS])
      go_roundg k24
      case measure => have := HK23.out; omega
      case rel => exact ⟨Go.bits .xor .u64 x3_0 t12, wrap64 (x4_0 + 1), (by first | rfl | (simp; done) | (simp [*]; done)), (by first | rfl | (simp; done) | (simp [*]; done)), H', (hid (by first | omega | (have := HK23.out; omega))), (hid (by exact BKb1.out)), HL⟩
    ·
     rw [if_neg c26] at H
     exact absurd H (by simp)
   ·
    rw [if_neg c25] at H
    have c25b0 : decide (x4_0 < 64) = false := decide_eq_false c25
    have hc25 := hid c25
    clear c25
    by_cases c30 : a0_1 = 1
    ·
     rw [if_pos c30] at H
     have c30b0 : (a0_1 == 1) = true := beq_iff_eq.mpr c30
     have c30b1 : (a0_1 != 1) = false := bne_eq_false_iff_eq.mpr c30
     have hc30 := hid c30
     clear c30
     replace H := Option.bind_eq_some_iff.mp H
     obtain ⟨t13, A31_, H⟩ := H
     have A31 := hid A31_
     clear A31_
     have H' := hid H
     clear H
     have k32 := True.intro
     go_wp2_with (first
      | ((with_reducible refine gate_d (N := 28) rfl ?_); refine ag_fix (.pointer (some ⟨gb1, 64, none⟩)) (ex_field 46 1 (.pointer (some ⟨gb1, 0, none⟩)) (.pointer (some ⟨gb1, 64, none⟩)) (fa46_1_0 gb1) _ rfl rfl) rfl ?_)
      | ((with_reducible refine gate_d (N := 29) rfl ?_); refine ag_fix (.int .i64 a0_1) (ex_get sT3 gb1 (64) (.int .i64 a0_1) ((pv a0_0 a0_1 a0_2 a0_3)) BKb1.out ((xv_cell (n := 64) LN_a0_0.out 0 64 (by omega)).trans rfl) _ rfl rfl) rfl ?_)
      | (go_at_call 114; clear k32; refine (i_alfilref17_Mix.calls 1024 t13 _ A31.out).mono ?_; rintro e_ w' ⟨rfl, rfl⟩))
     (try simp only [Act.put, sI, sZ, sS])
     go_loopg [3, 5] k24 (fun kq v3 v5 w' => ∃ (x3_1 : Int) (x5_1 : Int), v3 = .int .u64 x3_1 ∧ v5 = .int .i64 x5_1 ∧ Hid (i_alfilref17_Of.l1 kq a0_2 a0_3 x3_1 x5_1 = some r1) ∧ Hid (kq ≤ k24) ∧ Hid (Blk w' gb1 46 (pv a0_0 a0_1 a0_2 a0_3)) ∧ Hid (Below w.heap.size w w'))
     case atStart => exact ⟨Go.bits .xor .u64 x3_0 t13, (1 : Int), (by first | rfl | (simp; done) | (simp [*]; done)), (by first | rfl | (simp; done) | (simp [*]; done)), H', (hid (by first | omega | (have := HK23.out; omega))), (hid (by exact BKb1.out)), HL⟩
     case round =>
      clear H'
      clear HL BKb1
      obtain ⟨x3_1, x5_1, rfl, rfl, HA, HK33, BKb1, HL⟩ := hrel
      cases gk with
      | zero => exact absurd HA.out (by simp [i_alfilref17_Of.l1])
      | succ k34 =>
       have H := HA.out
       clear HA
       simp only [i_alfilref17_Of.l1] at H
       by_cases c35 : x5_1 ≤ 8
       ·
        rw [if_pos c35] at H
        have c35b0 : decide (x5_1 ≤ 8) = true := decide_eq_true c35
        have hc35 := hid c35
        clear c35
        by_cases c36 : (Go.bits .and .i64 a0_2 x5_1) = 0
        ·
         rw [if_pos c36] at H
         have c36b0 : ((Go.bits .and .i64 a0_2 x5_1) == 0) = true := beq_iff_eq.mpr c36
         have c36b1 : ((Go.bits .and .i64 a0_2 x5_1) != 0) = false := bne_eq_false_iff_eq.mpr c36
         have hc36 := hid c36
         clear c36
         have H' := hid H
         clear H
         go_wp2_with (first
          | ((with_reducible refine gate_d (N := 38) rfl ?_); refine ag_fix (.pointer (some ⟨gb1, 65, none⟩)) (ex_field 46 2 (.pointer (some ⟨gb1, 0, none⟩)) (.pointer (some ⟨gb1, 65, none⟩)) (fa46_2_0 gb1) _ rfl rfl) rfl ?_)
          | ((with_reducible refine gate_d (N := 39) rfl ?_); refine ag_fix (.int .i64 a0_2) (ex_get sT3 gb1 (65) (.int .i64 a0_2) ((pv a0_0 a0_1 a0_2 a0_3)) BKb1.out ((xv_cell (n := 64) LN_a0_0.out 1 65 (by omega)).trans rfl) _ rfl rfl) rfl ?_))
         (try simp only [Act.put, sI, sZ, sS])
         go_roundg k34
         case measure => have := HK23.out; have := HK33.out; omega
         case rel => exact ⟨x3_1, wrap64 (2 * x5_1), (by first | rfl | (simp; done) | (simp [*]; done)), (by first | rfl | (simp; done) | (simp [*]; done)), H', (hid (by first | omega | (have := HK23.out; have := HK33.out; omega))), (hid (by exact BKb1.out)), HL⟩
        ·
         rw [if_neg c36] at H
         have c36b0 : ((Go.bits .and .i64 a0_2 x5_1) == 0) = false := beq_eq_false_iff_ne.mpr c36
         have c36b1 : ((Go.bits .and .i64 a0_2 x5_1) != 0) = true := bne_iff_ne.mpr c36
         have hc36 := hid c36
         clear c36
         replace H := Option.bind_eq_some_iff.mp H
         obtain ⟨t16, A37_, H⟩ := H
         have A37 := hid A37_
         clear A37_
         have H' := hid H
         clear H
         have k38 := True.intro
         go_wp2_with (first
          | ((with_reducible refine gate_d (N := 38) rfl ?_); refine ag_fix (.pointer (some ⟨gb1, 65, none⟩)) (ex_field 46 2 (.pointer (some ⟨gb1, 0, none⟩)) (.pointer (some ⟨gb1, 65, none⟩)) (fa46_2_0 gb1) _ rfl rfl) rfl ?_)
          | ((with_reducible refine gate_d (N := 39) rfl ?_); refine ag_fix (.int .i64 a0_2) (ex_get sT3 gb1 (65) (.int .i64 a0_2) ((pv a0_0 a0_1 a0_2 a0_3)) BKb1.out ((xv_cell (n := 64) LN_a0_0.out 1 65 (by omega)).trans rfl) _ rfl rfl) rfl ?_)
          | (go_at_call 114; clear k38; refine (i_alfilref17_Mix.calls (IntKind.u64.wrap (wrap64 (1032 + x5_1))) t16 _ A37.out).mono ?_; rintro e_ w' ⟨rfl, rfl⟩))
         (try simp only [Act.put, sI, sZ, sS])
         go_roundg k34
         case measure => have := HK23.out; have := HK33.out; omega
         case rel => exact ⟨Go.bits .xor .u64 x3_1 t16, wrap64 (2 * x5_1), (by first | rfl | (simp; done) | (simp [*]; done)), (by first | rfl | (simp; done) | (simp [*]; done)), H', (hid (by first | omega | (have := HK23.out; have := HK33.out; omega))), (hid (by exact BKb1.out)), HL⟩
       ·
        rw [if_neg c35] at H
        have c35b0 : decide (x5_1 ≤ 8) = false := decide_eq_false c35
        have hc35 := hid c35
        clear c35
        by_cases c39 : a0_3 ≥ 0
        ·
         rw [if_pos c39] at H
         have c39b0 : decide (0 ≤ a0_3) = true := decide_eq_true c39
         have hc39 := hid c39
         clear c39
         replace H := Option.bind_eq_some_iff.mp H
         obtain ⟨t17, A40_, H⟩ := H
         have A40 := hid A40_
         clear A40_
         obtain rfl := Option.some.inj H
         clear H
         have k41 := True.intro
         go_wp2_with (first
          | ((with_reducible refine gate_d (N := 49) rfl ?_); refine ag_fix (.pointer (some ⟨gb1, 66, none⟩)) (ex_field 46 3 (.pointer (some ⟨gb1, 0, none⟩)) (.pointer (some ⟨gb1, 66, none⟩)) (fa46_3_0 gb1) _ rfl rfl) rfl ?_)
          | ((with_reducible refine gate_d (N := 50) rfl ?_); refine ag_fix (.int .i64 a0_3) (ex_get sT3 gb1 (66) (.int .i64 a0_3) ((pv a0_0 a0_1 a0_2 a0_3)) BKb1.out ((xv_cell (n := 64) LN_a0_0.out 2 66 (by omega)).trans rfl) _ rfl rfl) rfl ?_)
          | ((with_reducible refine gate_d (N := 53) rfl ?_); refine ag_fix (.pointer (some ⟨gb1, 66, none⟩)) (ex_field 46 3 (.pointer (some ⟨gb1, 0, none⟩)) (.pointer (some ⟨gb1, 66, none⟩)) (fa46_3_0 gb1) _ rfl rfl) rfl ?_)
          | ((with_reducible refine gate_d (N := 54) rfl ?_); refine ag_fix (.int .i64 a0_3) (ex_get sT3 gb1 (66) (.int .i64 a0_3) ((pv a0_0 a0_1 a0_2 a0_3)) BKb1.out ((xv_cell (n := 64) LN_a0_0.out 2 66 (by omega)).trans rfl) _ rfl rfl) rfl ?_)
          | (go_at_call 114; clear k41; refine (i_alfilref17_Mix.calls (IntKind.u64.wrap (1056 + (IntKind.u64.wrap (a0_3)))) t17 _ A40.out).mono ?_; rintro e_ w' ⟨rfl, rfl⟩))
         (try simp only [Act.put, sI, sZ, sS])
         go_ret
         exact ⟨by first | rfl | (simp; done) | (simp [*]; done), HL.out⟩
        ·
         rw [if_neg c39] at H
         have c39b0 : decide (0 ≤ a0_3) = false := decide_eq_false c39
         have hc39 := hid c39
         clear c39
         obtain rfl := Option.some.inj H
         clear H
         go_wp2_with (first
          | ((with_reducible refine gate_d (N := 49) rfl ?_); refine ag_fix (.pointer (some ⟨gb1, 66, none⟩)) (ex_field 46 3 (.pointer (some ⟨gb1, 0, none⟩)) (.pointer (some ⟨gb1, 66, none⟩)) (fa46_3_0 gb1) _ rfl rfl) rfl ?_)
          | ((with_reducible refine gate_d (N := 50) rfl ?_); refine ag_fix (.int .i64 a0_3) (ex_get sT3 gb1 (66) (.int .i64 a0_3) ((pv a0_0 a0_1 a0_2 a0_3)) BKb1.out ((xv_cell (n := 64) LN_a0_0.out 2 66 (by omega)).trans rfl) _ rfl rfl) rfl ?_))
         (try simp only [Act.put, sI, sZ, sS])
         go_ret
         exact ⟨by first | rfl | (simp; done) | (simp [*]; done), HL.out⟩
    ·
     rw [if_neg c30] at H
     have c30b0 : (a0_1 == 1) = false := beq_eq_false_iff_ne.mpr c30
     have c30b1 : (a0_1 != 1) = true := bne_iff_ne.mpr c30
     have hc30 := hid c30
     clear c30
     have H' := hid H
     clear H
     go_wp2_with (first
      | ((with_reducible refine gate_d (N := 28) rfl ?_); refine ag_fix (.pointer (some ⟨gb1, 64, none⟩)) (ex_field 46 1 (.pointer (some ⟨gb1, 0, none⟩)) (.pointer (some ⟨gb1, 64, none⟩)) (fa46_1_0 gb1) _ rfl rfl) rfl ?_)
      | ((with_reducible refine gate_d (N := 29) rfl ?_); refine ag_fix (.int .i64 a0_1) (ex_get sT3 gb1 (64) (.int .i64 a0_1) ((pv a0_0 a0_1 a0_2 a0_3)) BKb1.out ((xv_cell (n := 64) LN_a0_0.out 0 64 (by omega)).trans rfl) _ rfl rfl) rfl ?_))
     (try simp only [Act.put, sI, sZ, sS])
     go_loopg [3, 5] k24 (fun kq v3 v5 w' => ∃ (x3_2 : Int) (x5_2 : Int), v3 = .int .u64 x3_2 ∧ v5 = .int .i64 x5_2 ∧ Hid (i_alfilref17_Of.l2 kq a0_2 a0_3 x3_2 x5_2 = some r1) ∧ Hid (kq ≤ k24) ∧ Hid (Blk w' gb1 46 (pv a0_0 a0_1 a0_2 a0_3)) ∧ Hid (Below w.heap.size w w'))
     case atStart => exact ⟨x3_0, (1 : Int), (by first | rfl | (simp; done) | (simp [*]; done)), (by first | rfl | (simp; done) | (simp [*]; done)), H', (hid (by first | omega | (have := HK23.out; omega))), (hid (by exact BKb1.out)), HL⟩
     case round =>
      clear H'
      clear HL BKb1
      obtain ⟨x3_2, x5_2, rfl, rfl, HA, HK42, BKb1, HL⟩ := hrel
      cases gk with
      | zero => exact absurd HA.out (by simp [i_alfilref17_Of.l2])
      | succ k43 =>
       have H := HA.out
       clear HA
       simp only [i_alfilref17_Of.l2] at H
       by_cases c44 : x5_2 ≤ 8
       ·
        rw [if_pos c44] at H
        have c44b0 : decide (x5_2 ≤ 8) = true := decide_eq_true c44
        have hc44 := hid c44
        clear c44
        by_cases c45 : (Go.bits .and .i64 a0_2 x5_2) = 0
        ·
         rw [if_pos c45] at H
         have c45b0 : ((Go.bits .and .i64 a0_2 x5_2) == 0) = true := beq_iff_eq.mpr c45
         have c45b1 : ((Go.bits .and .i64 a0_2 x5_2) != 0) = false := bne_eq_false_iff_eq.mpr c45
         have hc45 := hid c45
         clear c45
         have H' := hid H
         clear H
         go_wp2_with (first
          | ((with_reducible refine gate_d (N := 38) rfl ?_); refine ag_fix (.pointer (some ⟨gb1, 65, none⟩)) (ex_field 46 2 (.pointer (some ⟨gb1, 0, none⟩)) (.pointer (some ⟨gb1, 65, none⟩)) (fa46_2_0 gb1) _ rfl rfl) rfl ?_)
          | ((with_reducible refine gate_d (N := 39) rfl ?_); refine ag_fix (.int .i64 a0_2) (ex_get sT3 gb1 (65) (.int .i64 a0_2) ((pv a0_0 a0_1 a0_2 a0_3)) BKb1.out ((xv_cell (n := 64) LN_a0_0.out 1 65 (by omega)).trans rfl) _ rfl rfl) rfl ?_))
         (try simp only [Act.put, sI, sZ, sS])
         go_roundg k43
         case measure => have := HK23.out; have := HK42.out; omega
         case rel => exact ⟨x3_2, wrap64 (2 * x5_2), (by first | rfl | (simp; done) | (simp [*]; done)), (by first | rfl | (simp; done) | (simp [*]; done)), H', (hid (by first | omega | (have := HK23.out; have := HK42.out; omega))), (hid (by exact BKb1.out)), HL⟩
        ·
         rw [if_neg c45] at H
         have c45b0 : ((Go.bits .and .i64 a0_2 x5_2) == 0) = false := beq_eq_false_iff_ne.mpr c45
         have c45b1 : ((Go.bits .and .i64 a0_2 x5_2) != 0) = true := bne_iff_ne.mpr c45
         have hc45 := hid c45
         clear c45
         replace H := Option.bind_eq_some_iff.mp H
         obtain ⟨t20, A46_, H⟩ := H
         have A46 := hid A46_
         clear A46_
         have H' := hid H
         clear H
         have k47 := True.intro
         go_wp2_with (first
          | ((with_reducible refine gate_d (N := 38) rfl ?_); refine ag_fix (.pointer (some ⟨gb1, 65, none⟩)) (ex_field 46 2 (.pointer (some ⟨gb1, 0, none⟩)) (.pointer (some ⟨gb1, 65, none⟩)) (fa46_2_0 gb1) _ rfl rfl) rfl ?_)
          | ((with_reducible refine gate_d (N := 39) rfl ?_); refine ag_fix (.int .i64 a0_2) (ex_get sT3 gb1 (65) (.int .i64 a0_2) ((pv a0_0 a0_1 a0_2 a0_3)) BKb1.out ((xv_cell (n := 64) LN_a0_0.out 1 65 (by omega)).trans rfl) _ rfl rfl) rfl ?_)
          | (go_at_call 114; clear k47; refine (i_alfilref17_Mix.calls (IntKind.u64.wrap (wrap64 (1032 + x5_2))) t20 _ A46.out).mono ?_; rintro e_ w' ⟨rfl, rfl⟩))
         (try simp only [Act.put, sI, sZ, sS])
         go_roundg k43
         case measure => have := HK23.out; have := HK42.out; omega
         case rel => exact ⟨Go.bits .xor .u64 x3_2 t20, wrap64 (2 * x5_2), (by first | rfl | (simp; done) | (simp [*]; done)), (by first | rfl | (simp; done) | (simp [*]; done)), H', (hid (by first | omega | (have := HK23.out; have := HK42.out; omega))), (hid (by exact BKb1.out)), HL⟩
       ·
        rw [if_neg c44] at H
        have c44b0 : decide (x5_2 ≤ 8) = false := decide_eq_false c44
        have hc44 := hid c44
        clear c44
        by_cases c48 : a0_3 ≥ 0
        ·
         rw [if_pos c48] at H
         have c48b0 : decide (0 ≤ a0_3) = true := decide_eq_true c48
         have hc48 := hid c48
         clear c48
         replace H := Option.bind_eq_some_iff.mp H
         obtain ⟨t21, A49_, H⟩ := H
         have A49 := hid A49_
         clear A49_
         obtain rfl := Option.some.inj H
         clear H
         have k50 := True.intro
         go_wp2_with (first
          | ((with_reducible refine gate_d (N := 49) rfl ?_); refine ag_fix (.pointer (some ⟨gb1, 66, none⟩)) (ex_field 46 3 (.pointer (some ⟨gb1, 0, none⟩)) (.pointer (some ⟨gb1, 66, none⟩)) (fa46_3_0 gb1) _ rfl rfl) rfl ?_)
          | ((with_reducible refine gate_d (N := 50) rfl ?_); refine ag_fix (.int .i64 a0_3) (ex_get sT3 gb1 (66) (.int .i64 a0_3) ((pv a0_0 a0_1 a0_2 a0_3)) BKb1.out ((xv_cell (n := 64) LN_a0_0.out 2 66 (by omega)).trans rfl) _ rfl rfl) rfl ?_)
          | ((with_reducible refine gate_d (N := 53) rfl ?_); refine ag_fix (.pointer (some ⟨gb1, 66, none⟩)) (ex_field 46 3 (.pointer (some ⟨gb1, 0, none⟩)) (.pointer (some ⟨gb1, 66, none⟩)) (fa46_3_0 gb1) _ rfl rfl) rfl ?_)
          | ((with_reducible refine gate_d (N := 54) rfl ?_); refine ag_fix (.int .i64 a0_3) (ex_get sT3 gb1 (66) (.int .i64 a0_3) ((pv a0_0 a0_1 a0_2 a0_3)) BKb1.out ((xv_cell (n := 64) LN_a0_0.out 2 66 (by omega)).trans rfl) _ rfl rfl) rfl ?_)
          | (go_at_call 114; clear k50; refine (i_alfilref17_Mix.calls (IntKind.u64.wrap (1056 + (IntKind.u64.wrap (a0_3)))) t21 _ A49.out).mono ?_; rintro e_ w' ⟨rfl, rfl⟩))
         (try simp only [Act.put, sI, sZ, sS])
         go_ret
         exact ⟨by first | rfl | (simp; done) | (simp [*]; done), HL.out⟩
        ·
         rw [if_neg c48] at H
         have c48b0 : decide (0 ≤ a0_3) = false := decide_eq_false c48
         have hc48 := hid c48
         clear c48
         obtain rfl := Option.some.inj H
         clear H
         go_wp2_with (first
          | ((with_reducible refine gate_d (N := 49) rfl ?_); refine ag_fix (.pointer (some ⟨gb1, 66, none⟩)) (ex_field 46 3 (.pointer (some ⟨gb1, 0, none⟩)) (.pointer (some ⟨gb1, 66, none⟩)) (fa46_3_0 gb1) _ rfl rfl) rfl ?_)
          | ((with_reducible refine gate_d (N := 50) rfl ?_); refine ag_fix (.int .i64 a0_3) (ex_get sT3 gb1 (66) (.int .i64 a0_3) ((pv a0_0 a0_1 a0_2 a0_3)) BKb1.out ((xv_cell (n := 64) LN_a0_0.out 2 66 (by omega)).trans rfl) _ rfl rfl) rfl ?_))
         (try simp only [Act.put, sI, sZ, sS])
         go_ret
         exact ⟨by first | rfl | (simp; done) | (simp [*]; done), HL.out⟩
end Go.Proofs.Ytpjocgebnodnoaa
