/- The walks of package lex: the reference of numbers. -/
import Derived.Test.YtabbkeliknidgaaProg
import Derived.Test.YtabbkeliknidgaaL1w
namespace Go.Proofs.Ytabbkeliknidgaa
open Go.RowKit
set_option linter.unusedVariables false
set_option linter.unusedSimpArgs false

/-! i_alfilref14_Number: function 15 -/
def i_alfilref14_Number.l0 : Nat → ByteArray → Int → Int → Int → Int → Int → Option (Int × Int × Int)
  | 0, _, _, _, _, _, _ => none
  | k + 1, a0, a1, a2, a3, x9_0, x10_0 => if x10_0 < (a0.size : Int) then (if 0 ≤ x10_0 then (if (bt a0 x10_0.toNat) ≥ 48 then (if (bt a0 x10_0.toNat) ≤ 57 then (if x10_0 > a1 then (if x9_0 = 0 then (some (x10_0, 0, 2)) else (if (wrap64 ((wrap64 (10 * x9_0)) + (((bt a0 x10_0.toNat) - 48) % 256))) > a3 then (some (x10_0, 0, 2)) else (if x10_0 = a1 then (if (wrap64 ((wrap64 (10 * x9_0)) + (((bt a0 x10_0.toNat) - 48) % 256))) = 0 then (if a2 > 0 then (some (x10_0, 0, 2)) else (i_alfilref14_Number.l0 k a0 a1 a2 a3 (wrap64 ((wrap64 (10 * x9_0)) + (((bt a0 x10_0.toNat) - 48) % 256))) (wrap64 (x10_0 + 1)))) else (i_alfilref14_Number.l0 k a0 a1 a2 a3 (wrap64 ((wrap64 (10 * x9_0)) + (((bt a0 x10_0.toNat) - 48) % 256))) (wrap64 (x10_0 + 1)))) else (i_alfilref14_Number.l0 k a0 a1 a2 a3 (wrap64 ((wrap64 (10 * x9_0)) + (((bt a0 x10_0.toNat) - 48) % 256))) (wrap64 (x10_0 + 1)))))) else (if (wrap64 ((wrap64 (10 * x9_0)) + (((bt a0 x10_0.toNat) - 48) % 256))) > a3 then (some (x10_0, 0, 2)) else (if x10_0 = a1 then (if (wrap64 ((wrap64 (10 * x9_0)) + (((bt a0 x10_0.toNat) - 48) % 256))) = 0 then (if a2 > 0 then (some (x10_0, 0, 2)) else (i_alfilref14_Number.l0 k a0 a1 a2 a3 (wrap64 ((wrap64 (10 * x9_0)) + (((bt a0 x10_0.toNat) - 48) % 256))) (wrap64 (x10_0 + 1)))) else (i_alfilref14_Number.l0 k a0 a1 a2 a3 (wrap64 ((wrap64 (10 * x9_0)) + (((bt a0 x10_0.toNat) - 48) % 256))) (wrap64 (x10_0 + 1)))) else (i_alfilref14_Number.l0 k a0 a1 a2 a3 (wrap64 ((wrap64 (10 * x9_0)) + (((bt a0 x10_0.toNat) - 48) % 256))) (wrap64 (x10_0 + 1)))))) else (if x10_0 > a1 then (if x9_0 ≥ a2 then (some (x10_0, x9_0, 0)) else (if x10_0 = (a0.size : Int) then (some (x10_0, 0, 1)) else (some (x10_0, 0, 2)))) else (if x10_0 = (a0.size : Int) then (some (x10_0, 0, 1)) else (some (x10_0, 0, 2))))) else (if x10_0 > a1 then (if x9_0 ≥ a2 then (some (x10_0, x9_0, 0)) else (if x10_0 = (a0.size : Int) then (some (x10_0, 0, 1)) else (some (x10_0, 0, 2)))) else (if x10_0 = (a0.size : Int) then (some (x10_0, 0, 1)) else (some (x10_0, 0, 2))))) else (none)) else (if x10_0 > a1 then (if x9_0 ≥ a2 then (some (x10_0, x9_0, 0)) else (if x10_0 = (a0.size : Int) then (some (x10_0, 0, 1)) else (some (x10_0, 0, 2)))) else (if x10_0 = (a0.size : Int) then (some (x10_0, 0, 1)) else (some (x10_0, 0, 2))))
def i_alfilref14_Number.f (k : Nat) (a0 : ByteArray) (a1 : Int) (a2 : Int) (a3 : Int) : Option (Int × Int × Int) := (i_alfilref14_There.f a0 a1).bind fun t334 => (if t334 = true then (if a2 < 0 then (some (0, 0, 5)) else (if a2 > a3 then (some (0, 0, 5)) else (if a3 > 1000000 then (some (0, 0, 5)) else (i_alfilref14_Number.l0 k a0 a1 a2 a3 0 a1)))) else (some (0, 0, 5)))
set_option maxHeartbeats 2000000 in
set_option maxRecDepth 100000 in
theorem i_alfilref14_Number.calls (k : Nat) (a0 : ByteArray) (a1 : Int) (a2 : Int) (a3 : Int) (r1 : Int) (r2 : Int) (r3 : Int) (w : World) (h : i_alfilref14_Number.f k a0 a1 a2 a3 = some (r1, r2, r3)) :
    Calls Try.prog 15 #[.string a0, .int .i64 a1, .int .i64 a2, .int .i64 a3] w fun e w' => e = .returned (.agg #[.int .i64 r1, .int .i64 r2, .int .i64 r3]) ∧ Below w.heap.size w w' := by
  have HL := hid (Below.refl w.heap.size w)
  have H : ((i_alfilref14_There.f a0 a1).bind fun t334 => (if t334 = true then (if a2 < 0 then (some (0, 0, 5)) else (if a2 > a3 then (some (0, 0, 5)) else (if a3 > 1000000 then (some (0, 0, 5)) else (i_alfilref14_Number.l0 k a0 a1 a2 a3 0 a1)))) else (some (0, 0, 5)))) = some (r1, r2, r3) := h
  clear h
  replace H := Option.bind_eq_some_iff.mp H
  obtain ⟨t334, A335_, H⟩ := H
  replace H : (if t334 = true then (if a2 < 0 then (some (0, 0, 5)) else (if a2 > a3 then (some (0, 0, 5)) else (if a3 > 1000000 then (some (0, 0, 5)) else (i_alfilref14_Number.l0 k a0 a1 a2 a3 0 a1)))) else (some (0, 0, 5))) = some (r1, r2, r3) := H
  have A335 := hid A335_
  clear A335_
  cases t334 with
  | true =>
    rw [if_pos rfl] at H
    by_cases c337 : a2 < 0
    · rw [if_pos c337] at H
      have c337b0 : decide (a2 < 0) = true := decide_eq_true c337
      have hc337 := hid c337
      clear c337
      simp only [Option.some.injEq, Prod.mk.injEq] at H
      obtain ⟨rfl, rfl, rfl⟩ := H
      go_enter Try.func15, Try.ntmps15
      have k339 := True.intro
      go_wp2_with (first
        | ((with_reducible refine gate_d (N := 8) rfl ?_); obtain ⟨gb333, hgb333⟩ : ∃ g_, w.heap.size = g_ := ⟨_, rfl⟩; refine ag_alloc aT26 gb333 hgb333 rfl rfl ?_; intro w338 hb_ hB_ hs_; have GEb333 : Hid (w.heap.size ≤ gb333) := hid (by have := HL.out.size; omega); replace HL := hid (HL.out.trans (hb_.mono GEb333.out)); have BKb333 := hid hB_; clear hb_ hB_ hs_ hgb333)
        | (go_at_call 29; clear k339; refine (i_alfilref14_There.calls a0 a1 true _ A335.out).mono ?_; rintro e_ w' ⟨rfl, rfl⟩)
        | ((with_reducible refine gate_d (N := 28) rfl ?_); refine ag_build (.agg #[.int .i64 0, .int .i64 0, .int .i64 5]) _ rfl rfl ?_ ?_; (intro ww_; simp only [List.map_toArray, List.map_cons, List.map_nil]; kernel_rfl))
        | ((with_reducible refine gate_s (t := 26) (p := 8) rfl ?_); refine ag_store aT26 gb333 0 #[.int .i64 0, .int .i64 0, .int .i64 0] #[.int .i64 0, .int .i64 0, .int .i64 5] #[.int .i64 0, .int .i64 0, .int .i64 5] BKb333.out rfl (by simp) (by intro v_ hv_; simp at hv_; rcases hv_ with rfl | rfl | rfl <;> rfl) rfl rfl _ _ rfl rfl rfl ?_; intro w340 ho_ hB_; replace HL := hid (ho_.below HL.out GEb333.out); replace BKb333 := hid hB_; clear ho_ hB_))
      (try simp only [Act.put, List.setIfInBounds_toArray, List.set_cons_zero, List.set_cons_succ])
      refine bodyPost_ret (v := .agg #[.int .i64 0, .int .i64 0, .int .i64 5]) (res_c aT26 rfl _ gb333 #[.int .i64 0, .int .i64 0, .int .i64 5] BKb333.out rfl rfl) rfl ?_
      exact ⟨by first | rfl | (simp; done) | (simp [*]; done), HL.out⟩
    · rw [if_neg c337] at H
      have c337b0 : decide (a2 < 0) = false := decide_eq_false c337
      have hc337 := hid c337
      clear c337
      by_cases c341 : a2 > a3
      · rw [if_pos c341] at H
        have c341b0 : decide (a3 < a2) = true := decide_eq_true c341
        have hc341 := hid c341
        clear c341
        simp only [Option.some.injEq, Prod.mk.injEq] at H
        obtain ⟨rfl, rfl, rfl⟩ := H
        go_enter Try.func15, Try.ntmps15
        have k343 := True.intro
        go_wp2_with (first
          | ((with_reducible refine gate_d (N := 8) rfl ?_); obtain ⟨gb333, hgb333⟩ : ∃ g_, w.heap.size = g_ := ⟨_, rfl⟩; refine ag_alloc aT26 gb333 hgb333 rfl rfl ?_; intro w342 hb_ hB_ hs_; have GEb333 : Hid (w.heap.size ≤ gb333) := hid (by have := HL.out.size; omega); replace HL := hid (HL.out.trans (hb_.mono GEb333.out)); have BKb333 := hid hB_; clear hb_ hB_ hs_ hgb333)
          | (go_at_call 29; clear k343; refine (i_alfilref14_There.calls a0 a1 true _ A335.out).mono ?_; rintro e_ w' ⟨rfl, rfl⟩)
          | ((with_reducible refine gate_d (N := 28) rfl ?_); refine ag_build (.agg #[.int .i64 0, .int .i64 0, .int .i64 5]) _ rfl rfl ?_ ?_; (intro ww_; simp only [List.map_toArray, List.map_cons, List.map_nil]; kernel_rfl))
          | ((with_reducible refine gate_s (t := 26) (p := 8) rfl ?_); refine ag_store aT26 gb333 0 #[.int .i64 0, .int .i64 0, .int .i64 0] #[.int .i64 0, .int .i64 0, .int .i64 5] #[.int .i64 0, .int .i64 0, .int .i64 5] BKb333.out rfl (by simp) (by intro v_ hv_; simp at hv_; rcases hv_ with rfl | rfl | rfl <;> rfl) rfl rfl _ _ rfl rfl rfl ?_; intro w344 ho_ hB_; replace HL := hid (ho_.below HL.out GEb333.out); replace BKb333 := hid hB_; clear ho_ hB_))
        (try simp only [Act.put, List.setIfInBounds_toArray, List.set_cons_zero, List.set_cons_succ])
        refine bodyPost_ret (v := .agg #[.int .i64 0, .int .i64 0, .int .i64 5]) (res_c aT26 rfl _ gb333 #[.int .i64 0, .int .i64 0, .int .i64 5] BKb333.out rfl rfl) rfl ?_
        exact ⟨by first | rfl | (simp; done) | (simp [*]; done), HL.out⟩
      · rw [if_neg c341] at H
        have c341b0 : decide (a3 < a2) = false := decide_eq_false c341
        have hc341 := hid c341
        clear c341
        by_cases c345 : a3 > 1000000
        · rw [if_pos c345] at H
          have c345b0 : decide (1000000 < a3) = true := decide_eq_true c345
          have hc345 := hid c345
          clear c345
          simp only [Option.some.injEq, Prod.mk.injEq] at H
          obtain ⟨rfl, rfl, rfl⟩ := H
          go_enter Try.func15, Try.ntmps15
          have k347 := True.intro
          go_wp2_with (first
            | ((with_reducible refine gate_d (N := 8) rfl ?_); obtain ⟨gb333, hgb333⟩ : ∃ g_, w.heap.size = g_ := ⟨_, rfl⟩; refine ag_alloc aT26 gb333 hgb333 rfl rfl ?_; intro w346 hb_ hB_ hs_; have GEb333 : Hid (w.heap.size ≤ gb333) := hid (by have := HL.out.size; omega); replace HL := hid (HL.out.trans (hb_.mono GEb333.out)); have BKb333 := hid hB_; clear hb_ hB_ hs_ hgb333)
            | (go_at_call 29; clear k347; refine (i_alfilref14_There.calls a0 a1 true _ A335.out).mono ?_; rintro e_ w' ⟨rfl, rfl⟩)
            | ((with_reducible refine gate_d (N := 28) rfl ?_); refine ag_build (.agg #[.int .i64 0, .int .i64 0, .int .i64 5]) _ rfl rfl ?_ ?_; (intro ww_; simp only [List.map_toArray, List.map_cons, List.map_nil]; kernel_rfl))
            | ((with_reducible refine gate_s (t := 26) (p := 8) rfl ?_); refine ag_store aT26 gb333 0 #[.int .i64 0, .int .i64 0, .int .i64 0] #[.int .i64 0, .int .i64 0, .int .i64 5] #[.int .i64 0, .int .i64 0, .int .i64 5] BKb333.out rfl (by simp) (by intro v_ hv_; simp at hv_; rcases hv_ with rfl | rfl | rfl <;> rfl) rfl rfl _ _ rfl rfl rfl ?_; intro w348 ho_ hB_; replace HL := hid (ho_.below HL.out GEb333.out); replace BKb333 := hid hB_; clear ho_ hB_))
          (try simp only [Act.put, List.setIfInBounds_toArray, List.set_cons_zero, List.set_cons_succ])
          refine bodyPost_ret (v := .agg #[.int .i64 0, .int .i64 0, .int .i64 5]) (res_c aT26 rfl _ gb333 #[.int .i64 0, .int .i64 0, .int .i64 5] BKb333.out rfl rfl) rfl ?_
          exact ⟨by first | rfl | (simp; done) | (simp [*]; done), HL.out⟩
        · rw [if_neg c345] at H
          have c345b0 : decide (1000000 < a3) = false := decide_eq_false c345
          have hc345 := hid c345
          clear c345
          have H' := hid H
          clear H
          go_enter Try.func15, Try.ntmps15
          have k350 := True.intro
          go_wp2_with (first
            | ((with_reducible refine gate_d (N := 8) rfl ?_); obtain ⟨gb333, hgb333⟩ : ∃ g_, w.heap.size = g_ := ⟨_, rfl⟩; refine ag_alloc aT26 gb333 hgb333 rfl rfl ?_; intro w349 hb_ hB_ hs_; have GEb333 : Hid (w.heap.size ≤ gb333) := hid (by have := HL.out.size; omega); replace HL := hid (HL.out.trans (hb_.mono GEb333.out)); have BKb333 := hid hB_; clear hb_ hB_ hs_ hgb333)
            | (go_at_call 29; clear k350; refine (i_alfilref14_There.calls a0 a1 true _ A335.out).mono ?_; rintro e_ w' ⟨rfl, rfl⟩))
          (try simp only [Act.put, List.setIfInBounds_toArray, List.set_cons_zero, List.set_cons_succ])
          go_loopg [9, 10] k (fun kq v9 v10 w' => ∃ (x9_0 : Int) (x10_0 : Int), v9 = .int .i64 x9_0 ∧ v10 = .int .i64 x10_0 ∧ Hid (i_alfilref14_Number.l0 kq a0 a1 a2 a3 x9_0 x10_0 = some (r1, r2, r3)) ∧ Hid (kq ≤ k) ∧ Hid (Blk w' gb333 26 #[.int .i64 0, .int .i64 0, .int .i64 0]) ∧ Hid (Below w.heap.size w w'))
          case atStart => exact ⟨(0 : Int), a1, (by first | rfl | (simp; done) | (simp [*]; done)), (by first | rfl | (simp; done) | (simp [*]; done)), H', (hid (by first | omega | (omega))), (hid (by exact BKb333.out)), HL⟩
          case round =>
            clear H'
            clear HL BKb333
            obtain ⟨x9_0, x10_0, rfl, rfl, HA, HK351, BKb333, HL⟩ := hrel
            cases gk with
            | zero => exact absurd HA.out (by simp [i_alfilref14_Number.l0])
            | succ k352 =>
              have H := HA.out
              clear HA
              simp only [i_alfilref14_Number.l0] at H
              by_cases c353 : x10_0 < (a0.size : Int)
              · rw [if_pos c353] at H
                have c353b0 : decide (x10_0 < (a0.size : Int)) = true := decide_eq_true c353
                have hc353 := hid c353
                clear c353
                by_cases c354 : 0 ≤ x10_0
                · rw [if_pos c354] at H
                  have c354b0 : decide (0 ≤ x10_0) = true := decide_eq_true c354
                  have hc354 := hid c354
                  clear c354
                  by_cases c355 : (bt a0 x10_0.toNat) ≥ 48
                  · rw [if_pos c355] at H
                    have c355b0 : decide (48 ≤ (bt a0 x10_0.toNat)) = true := decide_eq_true c355
                    have hc355 := hid c355
                    clear c355
                    by_cases c356 : (bt a0 x10_0.toNat) ≤ 57
                    · rw [if_pos c356] at H
                      have c356b0 : decide ((bt a0 x10_0.toNat) ≤ 57) = true := decide_eq_true c356
                      have hc356 := hid c356
                      clear c356
                      by_cases c357 : x10_0 > a1
                      · rw [if_pos c357] at H
                        have c357b0 : decide (a1 < x10_0) = true := decide_eq_true c357
                        have hc357 := hid c357
                        clear c357
                        by_cases c358 : x9_0 = 0
                        · rw [if_pos c358] at H
                          have c358b0 : (x9_0 == 0) = true := beq_iff_eq.mpr c358
                          have c358b1 : (x9_0 != 0) = false := bne_eq_false_iff_eq.mpr c358
                          have hc358 := hid c358
                          clear c358
                          simp only [Option.some.injEq, Prod.mk.injEq] at H
                          obtain ⟨rfl, rfl, rfl⟩ := H
                          go_wp2_with (first
                            | ((with_reducible refine gate_d (N := 37) rfl ?_); refine ag_fix (.int .u8 (bt a0 x10_0.toNat)) (ex_ix 9 (.string a0) (.int .i64 x10_0) (.int .u8 (bt a0 x10_0.toNat)) (ix_txt a0 x10_0 hc354.out hc353.out) _ _ rfl rfl rfl) rfl ?_)
                            | ((with_reducible refine gate_d (N := 43) rfl ?_); refine ag_fix (.int .u8 (bt a0 x10_0.toNat)) (ex_ix 9 (.string a0) (.int .i64 x10_0) (.int .u8 (bt a0 x10_0.toNat)) (ix_txt a0 x10_0 hc354.out hc353.out) _ _ rfl rfl rfl) rfl ?_)
                            | ((with_reducible refine gate_d (N := 54) rfl ?_); refine ag_build (.agg #[.int .i64 x10_0, .int .i64 0, .int .i64 2]) _ rfl rfl ?_ ?_; (intro ww_; simp only [List.map_toArray, List.map_cons, List.map_nil]; kernel_rfl))
                            | ((with_reducible refine gate_s (t := 26) (p := 8) rfl ?_); refine ag_store aT26 gb333 0 #[.int .i64 0, .int .i64 0, .int .i64 0] #[.int .i64 x10_0, .int .i64 0, .int .i64 2] #[.int .i64 x10_0, .int .i64 0, .int .i64 2] BKb333.out rfl (by simp) (by intro v_ hv_; simp at hv_; rcases hv_ with rfl | rfl | rfl <;> rfl) rfl rfl _ _ rfl rfl rfl ?_; intro w359 ho_ hB_; replace HL := hid (ho_.below HL.out GEb333.out); replace BKb333 := hid hB_; clear ho_ hB_))
                          (try simp only [Act.put, List.setIfInBounds_toArray, List.set_cons_zero, List.set_cons_succ])
                          refine bodyPost_ret (v := .agg #[.int .i64 x10_0, .int .i64 0, .int .i64 2]) (res_c aT26 rfl _ gb333 #[.int .i64 x10_0, .int .i64 0, .int .i64 2] BKb333.out rfl rfl) rfl ?_
                          exact ⟨by first | rfl | (simp; done) | (simp [*]; done), HL.out⟩
                        · rw [if_neg c358] at H
                          have c358b0 : (x9_0 == 0) = false := beq_eq_false_iff_ne.mpr c358
                          have c358b1 : (x9_0 != 0) = true := bne_iff_ne.mpr c358
                          have hc358 := hid c358
                          clear c358
                          by_cases c360 : (wrap64 ((wrap64 (10 * x9_0)) + (((bt a0 x10_0.toNat) - 48) % 256))) > a3
                          · rw [if_pos c360] at H
                            have c360b0 : decide (a3 < (wrap64 ((wrap64 (10 * x9_0)) + (((bt a0 x10_0.toNat) - 48) % 256)))) = true := decide_eq_true c360
                            have hc360 := hid c360
                            clear c360
                            simp only [Option.some.injEq, Prod.mk.injEq] at H
                            obtain ⟨rfl, rfl, rfl⟩ := H
                            go_wp2_with (first
                              | ((with_reducible refine gate_d (N := 37) rfl ?_); refine ag_fix (.int .u8 (bt a0 x10_0.toNat)) (ex_ix 9 (.string a0) (.int .i64 x10_0) (.int .u8 (bt a0 x10_0.toNat)) (ix_txt a0 x10_0 hc354.out hc353.out) _ _ rfl rfl rfl) rfl ?_)
                              | ((with_reducible refine gate_d (N := 43) rfl ?_); refine ag_fix (.int .u8 (bt a0 x10_0.toNat)) (ex_ix 9 (.string a0) (.int .i64 x10_0) (.int .u8 (bt a0 x10_0.toNat)) (ix_txt a0 x10_0 hc354.out hc353.out) _ _ rfl rfl rfl) rfl ?_)
                              | ((with_reducible refine gate_d (N := 59) rfl ?_); refine ag_fix (.int .u8 (bt a0 x10_0.toNat)) (ex_ix 9 (.string a0) (.int .i64 x10_0) (.int .u8 (bt a0 x10_0.toNat)) (ix_txt a0 x10_0 hc354.out hc353.out) _ _ rfl rfl rfl) rfl ?_)
                              | ((with_reducible refine gate_d (N := 80) rfl ?_); refine ag_build (.agg #[.int .i64 x10_0, .int .i64 0, .int .i64 2]) _ rfl rfl ?_ ?_; (intro ww_; simp only [List.map_toArray, List.map_cons, List.map_nil]; kernel_rfl))
                              | ((with_reducible refine gate_s (t := 26) (p := 8) rfl ?_); refine ag_store aT26 gb333 0 #[.int .i64 0, .int .i64 0, .int .i64 0] #[.int .i64 x10_0, .int .i64 0, .int .i64 2] #[.int .i64 x10_0, .int .i64 0, .int .i64 2] BKb333.out rfl (by simp) (by intro v_ hv_; simp at hv_; rcases hv_ with rfl | rfl | rfl <;> rfl) rfl rfl _ _ rfl rfl rfl ?_; intro w361 ho_ hB_; replace HL := hid (ho_.below HL.out GEb333.out); replace BKb333 := hid hB_; clear ho_ hB_))
                            (try simp only [Act.put, List.setIfInBounds_toArray, List.set_cons_zero, List.set_cons_succ])
                            refine bodyPost_ret (v := .agg #[.int .i64 x10_0, .int .i64 0, .int .i64 2]) (res_c aT26 rfl _ gb333 #[.int .i64 x10_0, .int .i64 0, .int .i64 2] BKb333.out rfl rfl) rfl ?_
                            exact ⟨by first | rfl | (simp; done) | (simp [*]; done), HL.out⟩
                          · rw [if_neg c360] at H
                            have c360b0 : decide (a3 < (wrap64 ((wrap64 (10 * x9_0)) + (((bt a0 x10_0.toNat) - 48) % 256)))) = false := decide_eq_false c360
                            have hc360 := hid c360
                            clear c360
                            by_cases c362 : x10_0 = a1
                            · rw [if_pos c362] at H
                              have c362b0 : (x10_0 == a1) = true := beq_iff_eq.mpr c362
                              have c362b1 : (x10_0 != a1) = false := bne_eq_false_iff_eq.mpr c362
                              have hc362 := hid c362
                              clear c362
                              by_cases c363 : (wrap64 ((wrap64 (10 * x9_0)) + (((bt a0 x10_0.toNat) - 48) % 256))) = 0
                              · rw [if_pos c363] at H
                                have c363b0 : ((wrap64 ((wrap64 (10 * x9_0)) + (((bt a0 x10_0.toNat) - 48) % 256))) == 0) = true := beq_iff_eq.mpr c363
                                have c363b1 : ((wrap64 ((wrap64 (10 * x9_0)) + (((bt a0 x10_0.toNat) - 48) % 256))) != 0) = false := bne_eq_false_iff_eq.mpr c363
                                have hc363 := hid c363
                                clear c363
                                by_cases c364 : a2 > 0
                                · rw [if_pos c364] at H
                                  have c364b0 : decide (0 < a2) = true := decide_eq_true c364
                                  have hc364 := hid c364
                                  clear c364
                                  simp only [Option.some.injEq, Prod.mk.injEq] at H
                                  obtain ⟨rfl, rfl, rfl⟩ := H
                                  go_wp2_with (first
                                    | ((with_reducible refine gate_d (N := 37) rfl ?_); refine ag_fix (.int .u8 (bt a0 x10_0.toNat)) (ex_ix 9 (.string a0) (.int .i64 x10_0) (.int .u8 (bt a0 x10_0.toNat)) (ix_txt a0 x10_0 hc354.out hc353.out) _ _ rfl rfl rfl) rfl ?_)
                                    | ((with_reducible refine gate_d (N := 43) rfl ?_); refine ag_fix (.int .u8 (bt a0 x10_0.toNat)) (ex_ix 9 (.string a0) (.int .i64 x10_0) (.int .u8 (bt a0 x10_0.toNat)) (ix_txt a0 x10_0 hc354.out hc353.out) _ _ rfl rfl rfl) rfl ?_)
                                    | ((with_reducible refine gate_d (N := 59) rfl ?_); refine ag_fix (.int .u8 (bt a0 x10_0.toNat)) (ex_ix 9 (.string a0) (.int .i64 x10_0) (.int .u8 (bt a0 x10_0.toNat)) (ix_txt a0 x10_0 hc354.out hc353.out) _ _ rfl rfl rfl) rfl ?_)
                                    | ((with_reducible refine gate_d (N := 80) rfl ?_); refine ag_build (.agg #[.int .i64 x10_0, .int .i64 0, .int .i64 2]) _ rfl rfl ?_ ?_; (intro ww_; simp only [List.map_toArray, List.map_cons, List.map_nil]; kernel_rfl))
                                    | ((with_reducible refine gate_s (t := 26) (p := 8) rfl ?_); refine ag_store aT26 gb333 0 #[.int .i64 0, .int .i64 0, .int .i64 0] #[.int .i64 x10_0, .int .i64 0, .int .i64 2] #[.int .i64 x10_0, .int .i64 0, .int .i64 2] BKb333.out rfl (by simp) (by intro v_ hv_; simp at hv_; rcases hv_ with rfl | rfl | rfl <;> rfl) rfl rfl _ _ rfl rfl rfl ?_; intro w365 ho_ hB_; replace HL := hid (ho_.below HL.out GEb333.out); replace BKb333 := hid hB_; clear ho_ hB_))
                                  (try simp only [Act.put, List.setIfInBounds_toArray, List.set_cons_zero, List.set_cons_succ])
                                  refine bodyPost_ret (v := .agg #[.int .i64 x10_0, .int .i64 0, .int .i64 2]) (res_c aT26 rfl _ gb333 #[.int .i64 x10_0, .int .i64 0, .int .i64 2] BKb333.out rfl rfl) rfl ?_
                                  exact ⟨by first | rfl | (simp; done) | (simp [*]; done), HL.out⟩
                                · rw [if_neg c364] at H
                                  have c364b0 : decide (0 < a2) = false := decide_eq_false c364
                                  have hc364 := hid c364
                                  clear c364
                                  have H' := hid H
                                  clear H
                                  go_wp2_with (first
                                    | ((with_reducible refine gate_d (N := 37) rfl ?_); refine ag_fix (.int .u8 (bt a0 x10_0.toNat)) (ex_ix 9 (.string a0) (.int .i64 x10_0) (.int .u8 (bt a0 x10_0.toNat)) (ix_txt a0 x10_0 hc354.out hc353.out) _ _ rfl rfl rfl) rfl ?_)
                                    | ((with_reducible refine gate_d (N := 43) rfl ?_); refine ag_fix (.int .u8 (bt a0 x10_0.toNat)) (ex_ix 9 (.string a0) (.int .i64 x10_0) (.int .u8 (bt a0 x10_0.toNat)) (ix_txt a0 x10_0 hc354.out hc353.out) _ _ rfl rfl rfl) rfl ?_)
                                    | ((with_reducible refine gate_d (N := 59) rfl ?_); refine ag_fix (.int .u8 (bt a0 x10_0.toNat)) (ex_ix 9 (.string a0) (.int .i64 x10_0) (.int .u8 (bt a0 x10_0.toNat)) (ix_txt a0 x10_0 hc354.out hc353.out) _ _ rfl rfl rfl) rfl ?_))
                                  (try simp only [Act.put, List.setIfInBounds_toArray, List.set_cons_zero, List.set_cons_succ])
                                  go_roundg k352
                                  case measure => have := HK351.out; omega
                                  case rel => exact ⟨wrap64 ((wrap64 (10 * x9_0)) + (((bt a0 x10_0.toNat) - 48) % 256)), wrap64 (x10_0 + 1), (by first | rfl | (simp; done) | (simp [*]; done)), (by first | rfl | (simp; done) | (simp [*]; done)), H', (hid (by first | omega | (have := HK351.out; omega))), (hid (by exact BKb333.out)), HL⟩
                              · rw [if_neg c363] at H
                                have c363b0 : ((wrap64 ((wrap64 (10 * x9_0)) + (((bt a0 x10_0.toNat) - 48) % 256))) == 0) = false := beq_eq_false_iff_ne.mpr c363
                                have c363b1 : ((wrap64 ((wrap64 (10 * x9_0)) + (((bt a0 x10_0.toNat) - 48) % 256))) != 0) = true := bne_iff_ne.mpr c363
                                have hc363 := hid c363
                                clear c363
                                have H' := hid H
                                clear H
                                go_wp2_with (first
                                  | ((with_reducible refine gate_d (N := 37) rfl ?_); refine ag_fix (.int .u8 (bt a0 x10_0.toNat)) (ex_ix 9 (.string a0) (.int .i64 x10_0) (.int .u8 (bt a0 x10_0.toNat)) (ix_txt a0 x10_0 hc354.out hc353.out) _ _ rfl rfl rfl) rfl ?_)
                                  | ((with_reducible refine gate_d (N := 43) rfl ?_); refine ag_fix (.int .u8 (bt a0 x10_0.toNat)) (ex_ix 9 (.string a0) (.int .i64 x10_0) (.int .u8 (bt a0 x10_0.toNat)) (ix_txt a0 x10_0 hc354.out hc353.out) _ _ rfl rfl rfl) rfl ?_)
                                  | ((with_reducible refine gate_d (N := 59) rfl ?_); refine ag_fix (.int .u8 (bt a0 x10_0.toNat)) (ex_ix 9 (.string a0) (.int .i64 x10_0) (.int .u8 (bt a0 x10_0.toNat)) (ix_txt a0 x10_0 hc354.out hc353.out) _ _ rfl rfl rfl) rfl ?_))
                                (try simp only [Act.put, List.setIfInBounds_toArray, List.set_cons_zero, List.set_cons_succ])
                                go_roundg k352
                                case measure => have := HK351.out; omega
                                case rel => exact ⟨wrap64 ((wrap64 (10 * x9_0)) + (((bt a0 x10_0.toNat) - 48) % 256)), wrap64 (x10_0 + 1), (by first | rfl | (simp; done) | (simp [*]; done)), (by first | rfl | (simp; done) | (simp [*]; done)), H', (hid (by first | omega | (have := HK351.out; omega))), (hid (by exact BKb333.out)), HL⟩
                            · rw [if_neg c362] at H
                              have c362b0 : (x10_0 == a1) = false := beq_eq_false_iff_ne.mpr c362
                              have c362b1 : (x10_0 != a1) = true := bne_iff_ne.mpr c362
                              have hc362 := hid c362
                              clear c362
                              have H' := hid H
                              clear H
                              go_wp2_with (first
                                | ((with_reducible refine gate_d (N := 37) rfl ?_); refine ag_fix (.int .u8 (bt a0 x10_0.toNat)) (ex_ix 9 (.string a0) (.int .i64 x10_0) (.int .u8 (bt a0 x10_0.toNat)) (ix_txt a0 x10_0 hc354.out hc353.out) _ _ rfl rfl rfl) rfl ?_)
                                | ((with_reducible refine gate_d (N := 43) rfl ?_); refine ag_fix (.int .u8 (bt a0 x10_0.toNat)) (ex_ix 9 (.string a0) (.int .i64 x10_0) (.int .u8 (bt a0 x10_0.toNat)) (ix_txt a0 x10_0 hc354.out hc353.out) _ _ rfl rfl rfl) rfl ?_)
                                | ((with_reducible refine gate_d (N := 59) rfl ?_); refine ag_fix (.int .u8 (bt a0 x10_0.toNat)) (ex_ix 9 (.string a0) (.int .i64 x10_0) (.int .u8 (bt a0 x10_0.toNat)) (ix_txt a0 x10_0 hc354.out hc353.out) _ _ rfl rfl rfl) rfl ?_))
                              (try simp only [Act.put, List.setIfInBounds_toArray, List.set_cons_zero, List.set_cons_succ])
                              go_roundg k352
                              case measure => have := HK351.out; omega
                              case rel => exact ⟨wrap64 ((wrap64 (10 * x9_0)) + (((bt a0 x10_0.toNat) - 48) % 256)), wrap64 (x10_0 + 1), (by first | rfl | (simp; done) | (simp [*]; done)), (by first | rfl | (simp; done) | (simp [*]; done)), H', (hid (by first | omega | (have := HK351.out; omega))), (hid (by exact BKb333.out)), HL⟩
                      · rw [if_neg c357] at H
                        have c357b0 : decide (a1 < x10_0) = false := decide_eq_false c357
                        have hc357 := hid c357
                        clear c357
                        by_cases c366 : (wrap64 ((wrap64 (10 * x9_0)) + (((bt a0 x10_0.toNat) - 48) % 256))) > a3
                        · rw [if_pos c366] at H
                          have c366b0 : decide (a3 < (wrap64 ((wrap64 (10 * x9_0)) + (((bt a0 x10_0.toNat) - 48) % 256)))) = true := decide_eq_true c366
                          have hc366 := hid c366
                          clear c366
                          simp only [Option.some.injEq, Prod.mk.injEq] at H
                          obtain ⟨rfl, rfl, rfl⟩ := H
                          go_wp2_with (first
                            | ((with_reducible refine gate_d (N := 37) rfl ?_); refine ag_fix (.int .u8 (bt a0 x10_0.toNat)) (ex_ix 9 (.string a0) (.int .i64 x10_0) (.int .u8 (bt a0 x10_0.toNat)) (ix_txt a0 x10_0 hc354.out hc353.out) _ _ rfl rfl rfl) rfl ?_)
                            | ((with_reducible refine gate_d (N := 43) rfl ?_); refine ag_fix (.int .u8 (bt a0 x10_0.toNat)) (ex_ix 9 (.string a0) (.int .i64 x10_0) (.int .u8 (bt a0 x10_0.toNat)) (ix_txt a0 x10_0 hc354.out hc353.out) _ _ rfl rfl rfl) rfl ?_)
                            | ((with_reducible refine gate_d (N := 59) rfl ?_); refine ag_fix (.int .u8 (bt a0 x10_0.toNat)) (ex_ix 9 (.string a0) (.int .i64 x10_0) (.int .u8 (bt a0 x10_0.toNat)) (ix_txt a0 x10_0 hc354.out hc353.out) _ _ rfl rfl rfl) rfl ?_)
                            | ((with_reducible refine gate_d (N := 80) rfl ?_); refine ag_build (.agg #[.int .i64 x10_0, .int .i64 0, .int .i64 2]) _ rfl rfl ?_ ?_; (intro ww_; simp only [List.map_toArray, List.map_cons, List.map_nil]; kernel_rfl))
                            | ((with_reducible refine gate_s (t := 26) (p := 8) rfl ?_); refine ag_store aT26 gb333 0 #[.int .i64 0, .int .i64 0, .int .i64 0] #[.int .i64 x10_0, .int .i64 0, .int .i64 2] #[.int .i64 x10_0, .int .i64 0, .int .i64 2] BKb333.out rfl (by simp) (by intro v_ hv_; simp at hv_; rcases hv_ with rfl | rfl | rfl <;> rfl) rfl rfl _ _ rfl rfl rfl ?_; intro w367 ho_ hB_; replace HL := hid (ho_.below HL.out GEb333.out); replace BKb333 := hid hB_; clear ho_ hB_))
                          (try simp only [Act.put, List.setIfInBounds_toArray, List.set_cons_zero, List.set_cons_succ])
                          refine bodyPost_ret (v := .agg #[.int .i64 x10_0, .int .i64 0, .int .i64 2]) (res_c aT26 rfl _ gb333 #[.int .i64 x10_0, .int .i64 0, .int .i64 2] BKb333.out rfl rfl) rfl ?_
                          exact ⟨by first | rfl | (simp; done) | (simp [*]; done), HL.out⟩
                        · rw [if_neg c366] at H
                          have c366b0 : decide (a3 < (wrap64 ((wrap64 (10 * x9_0)) + (((bt a0 x10_0.toNat) - 48) % 256)))) = false := decide_eq_false c366
                          have hc366 := hid c366
                          clear c366
                          by_cases c368 : x10_0 = a1
                          · rw [if_pos c368] at H
                            have c368b0 : (x10_0 == a1) = true := beq_iff_eq.mpr c368
                            have c368b1 : (x10_0 != a1) = false := bne_eq_false_iff_eq.mpr c368
                            have hc368 := hid c368
                            clear c368
                            by_cases c369 : (wrap64 ((wrap64 (10 * x9_0)) + (((bt a0 x10_0.toNat) - 48) % 256))) = 0
                            · rw [if_pos c369] at H
                              have c369b0 : ((wrap64 ((wrap64 (10 * x9_0)) + (((bt a0 x10_0.toNat) - 48) % 256))) == 0) = true := beq_iff_eq.mpr c369
                              have c369b1 : ((wrap64 ((wrap64 (10 * x9_0)) + (((bt a0 x10_0.toNat) - 48) % 256))) != 0) = false := bne_eq_false_iff_eq.mpr c369
                              have hc369 := hid c369
                              clear c369
                              by_cases c370 : a2 > 0
                              · rw [if_pos c370] at H
                                have c370b0 : decide (0 < a2) = true := decide_eq_true c370
                                have hc370 := hid c370
                                clear c370
                                simp only [Option.some.injEq, Prod.mk.injEq] at H
                                obtain ⟨rfl, rfl, rfl⟩ := H
                                go_wp2_with (first
                                  | ((with_reducible refine gate_d (N := 37) rfl ?_); refine ag_fix (.int .u8 (bt a0 x10_0.toNat)) (ex_ix 9 (.string a0) (.int .i64 x10_0) (.int .u8 (bt a0 x10_0.toNat)) (ix_txt a0 x10_0 hc354.out hc353.out) _ _ rfl rfl rfl) rfl ?_)
                                  | ((with_reducible refine gate_d (N := 43) rfl ?_); refine ag_fix (.int .u8 (bt a0 x10_0.toNat)) (ex_ix 9 (.string a0) (.int .i64 x10_0) (.int .u8 (bt a0 x10_0.toNat)) (ix_txt a0 x10_0 hc354.out hc353.out) _ _ rfl rfl rfl) rfl ?_)
                                  | ((with_reducible refine gate_d (N := 59) rfl ?_); refine ag_fix (.int .u8 (bt a0 x10_0.toNat)) (ex_ix 9 (.string a0) (.int .i64 x10_0) (.int .u8 (bt a0 x10_0.toNat)) (ix_txt a0 x10_0 hc354.out hc353.out) _ _ rfl rfl rfl) rfl ?_)
                                  | ((with_reducible refine gate_d (N := 80) rfl ?_); refine ag_build (.agg #[.int .i64 x10_0, .int .i64 0, .int .i64 2]) _ rfl rfl ?_ ?_; (intro ww_; simp only [List.map_toArray, List.map_cons, List.map_nil]; kernel_rfl))
                                  | ((with_reducible refine gate_s (t := 26) (p := 8) rfl ?_); refine ag_store aT26 gb333 0 #[.int .i64 0, .int .i64 0, .int .i64 0] #[.int .i64 x10_0, .int .i64 0, .int .i64 2] #[.int .i64 x10_0, .int .i64 0, .int .i64 2] BKb333.out rfl (by simp) (by intro v_ hv_; simp at hv_; rcases hv_ with rfl | rfl | rfl <;> rfl) rfl rfl _ _ rfl rfl rfl ?_; intro w371 ho_ hB_; replace HL := hid (ho_.below HL.out GEb333.out); replace BKb333 := hid hB_; clear ho_ hB_))
                                (try simp only [Act.put, List.setIfInBounds_toArray, List.set_cons_zero, List.set_cons_succ])
                                refine bodyPost_ret (v := .agg #[.int .i64 x10_0, .int .i64 0, .int .i64 2]) (res_c aT26 rfl _ gb333 #[.int .i64 x10_0, .int .i64 0, .int .i64 2] BKb333.out rfl rfl) rfl ?_
                                exact ⟨by first | rfl | (simp; done) | (simp [*]; done), HL.out⟩
                              · rw [if_neg c370] at H
                                have c370b0 : decide (0 < a2) = false := decide_eq_false c370
                                have hc370 := hid c370
                                clear c370
                                have H' := hid H
                                clear H
                                go_wp2_with (first
                                  | ((with_reducible refine gate_d (N := 37) rfl ?_); refine ag_fix (.int .u8 (bt a0 x10_0.toNat)) (ex_ix 9 (.string a0) (.int .i64 x10_0) (.int .u8 (bt a0 x10_0.toNat)) (ix_txt a0 x10_0 hc354.out hc353.out) _ _ rfl rfl rfl) rfl ?_)
                                  | ((with_reducible refine gate_d (N := 43) rfl ?_); refine ag_fix (.int .u8 (bt a0 x10_0.toNat)) (ex_ix 9 (.string a0) (.int .i64 x10_0) (.int .u8 (bt a0 x10_0.toNat)) (ix_txt a0 x10_0 hc354.out hc353.out) _ _ rfl rfl rfl) rfl ?_)
                                  | ((with_reducible refine gate_d (N := 59) rfl ?_); refine ag_fix (.int .u8 (bt a0 x10_0.toNat)) (ex_ix 9 (.string a0) (.int .i64 x10_0) (.int .u8 (bt a0 x10_0.toNat)) (ix_txt a0 x10_0 hc354.out hc353.out) _ _ rfl rfl rfl) rfl ?_))
                                (try simp only [Act.put, List.setIfInBounds_toArray, List.set_cons_zero, List.set_cons_succ])
                                go_roundg k352
                                case measure => have := HK351.out; omega
                                case rel => exact ⟨wrap64 ((wrap64 (10 * x9_0)) + (((bt a0 x10_0.toNat) - 48) % 256)), wrap64 (x10_0 + 1), (by first | rfl | (simp; done) | (simp [*]; done)), (by first | rfl | (simp; done) | (simp [*]; done)), H', (hid (by first | omega | (have := HK351.out; omega))), (hid (by exact BKb333.out)), HL⟩
                            · rw [if_neg c369] at H
                              have c369b0 : ((wrap64 ((wrap64 (10 * x9_0)) + (((bt a0 x10_0.toNat) - 48) % 256))) == 0) = false := beq_eq_false_iff_ne.mpr c369
                              have c369b1 : ((wrap64 ((wrap64 (10 * x9_0)) + (((bt a0 x10_0.toNat) - 48) % 256))) != 0) = true := bne_iff_ne.mpr c369
                              have hc369 := hid c369
                              clear c369
                              have H' := hid H
                              clear H
                              go_wp2_with (first
                                | ((with_reducible refine gate_d (N := 37) rfl ?_); refine ag_fix (.int .u8 (bt a0 x10_0.toNat)) (ex_ix 9 (.string a0) (.int .i64 x10_0) (.int .u8 (bt a0 x10_0.toNat)) (ix_txt a0 x10_0 hc354.out hc353.out) _ _ rfl rfl rfl) rfl ?_)
                                | ((with_reducible refine gate_d (N := 43) rfl ?_); refine ag_fix (.int .u8 (bt a0 x10_0.toNat)) (ex_ix 9 (.string a0) (.int .i64 x10_0) (.int .u8 (bt a0 x10_0.toNat)) (ix_txt a0 x10_0 hc354.out hc353.out) _ _ rfl rfl rfl) rfl ?_)
                                | ((with_reducible refine gate_d (N := 59) rfl ?_); refine ag_fix (.int .u8 (bt a0 x10_0.toNat)) (ex_ix 9 (.string a0) (.int .i64 x10_0) (.int .u8 (bt a0 x10_0.toNat)) (ix_txt a0 x10_0 hc354.out hc353.out) _ _ rfl rfl rfl) rfl ?_))
                              (try simp only [Act.put, List.setIfInBounds_toArray, List.set_cons_zero, List.set_cons_succ])
                              go_roundg k352
                              case measure => have := HK351.out; omega
                              case rel => exact ⟨wrap64 ((wrap64 (10 * x9_0)) + (((bt a0 x10_0.toNat) - 48) % 256)), wrap64 (x10_0 + 1), (by first | rfl | (simp; done) | (simp [*]; done)), (by first | rfl | (simp; done) | (simp [*]; done)), H', (hid (by first | omega | (have := HK351.out; omega))), (hid (by exact BKb333.out)), HL⟩
                          · rw [if_neg c368] at H
                            have c368b0 : (x10_0 == a1) = false := beq_eq_false_iff_ne.mpr c368
                            have c368b1 : (x10_0 != a1) = true := bne_iff_ne.mpr c368
                            have hc368 := hid c368
                            clear c368
                            have H' := hid H
                            clear H
                            go_wp2_with (first
                              | ((with_reducible refine gate_d (N := 37) rfl ?_); refine ag_fix (.int .u8 (bt a0 x10_0.toNat)) (ex_ix 9 (.string a0) (.int .i64 x10_0) (.int .u8 (bt a0 x10_0.toNat)) (ix_txt a0 x10_0 hc354.out hc353.out) _ _ rfl rfl rfl) rfl ?_)
                              | ((with_reducible refine gate_d (N := 43) rfl ?_); refine ag_fix (.int .u8 (bt a0 x10_0.toNat)) (ex_ix 9 (.string a0) (.int .i64 x10_0) (.int .u8 (bt a0 x10_0.toNat)) (ix_txt a0 x10_0 hc354.out hc353.out) _ _ rfl rfl rfl) rfl ?_)
                              | ((with_reducible refine gate_d (N := 59) rfl ?_); refine ag_fix (.int .u8 (bt a0 x10_0.toNat)) (ex_ix 9 (.string a0) (.int .i64 x10_0) (.int .u8 (bt a0 x10_0.toNat)) (ix_txt a0 x10_0 hc354.out hc353.out) _ _ rfl rfl rfl) rfl ?_))
                            (try simp only [Act.put, List.setIfInBounds_toArray, List.set_cons_zero, List.set_cons_succ])
                            go_roundg k352
                            case measure => have := HK351.out; omega
                            case rel => exact ⟨wrap64 ((wrap64 (10 * x9_0)) + (((bt a0 x10_0.toNat) - 48) % 256)), wrap64 (x10_0 + 1), (by first | rfl | (simp; done) | (simp [*]; done)), (by first | rfl | (simp; done) | (simp [*]; done)), H', (hid (by first | omega | (have := HK351.out; omega))), (hid (by exact BKb333.out)), HL⟩
                    · rw [if_neg c356] at H
                      have c356b0 : decide ((bt a0 x10_0.toNat) ≤ 57) = false := decide_eq_false c356
                      have hc356 := hid c356
                      clear c356
                      by_cases c372 : x10_0 > a1
                      · rw [if_pos c372] at H
                        have c372b0 : decide (a1 < x10_0) = true := decide_eq_true c372
                        have hc372 := hid c372
                        clear c372
                        by_cases c373 : x9_0 ≥ a2
                        · rw [if_pos c373] at H
                          have c373b0 : decide (a2 ≤ x9_0) = true := decide_eq_true c373
                          have hc373 := hid c373
                          clear c373
                          simp only [Option.some.injEq, Prod.mk.injEq] at H
                          obtain ⟨rfl, rfl, rfl⟩ := H
                          go_wp2_with (first
                            | ((with_reducible refine gate_d (N := 37) rfl ?_); refine ag_fix (.int .u8 (bt a0 x10_0.toNat)) (ex_ix 9 (.string a0) (.int .i64 x10_0) (.int .u8 (bt a0 x10_0.toNat)) (ix_txt a0 x10_0 hc354.out hc353.out) _ _ rfl rfl rfl) rfl ?_)
                            | ((with_reducible refine gate_d (N := 43) rfl ?_); refine ag_fix (.int .u8 (bt a0 x10_0.toNat)) (ex_ix 9 (.string a0) (.int .i64 x10_0) (.int .u8 (bt a0 x10_0.toNat)) (ix_txt a0 x10_0 hc354.out hc353.out) _ _ rfl rfl rfl) rfl ?_)
                            | ((with_reducible refine gate_d (N := 93) rfl ?_); refine ag_build (.agg #[.int .i64 x10_0, .int .i64 x9_0, .int .i64 0]) _ rfl rfl ?_ ?_; (intro ww_; simp only [List.map_toArray, List.map_cons, List.map_nil]; kernel_rfl))
                            | ((with_reducible refine gate_s (t := 26) (p := 8) rfl ?_); refine ag_store aT26 gb333 0 #[.int .i64 0, .int .i64 0, .int .i64 0] #[.int .i64 x10_0, .int .i64 x9_0, .int .i64 0] #[.int .i64 x10_0, .int .i64 x9_0, .int .i64 0] BKb333.out rfl (by simp) (by intro v_ hv_; simp at hv_; rcases hv_ with rfl | rfl | rfl <;> rfl) rfl rfl _ _ rfl rfl rfl ?_; intro w374 ho_ hB_; replace HL := hid (ho_.below HL.out GEb333.out); replace BKb333 := hid hB_; clear ho_ hB_))
                          (try simp only [Act.put, List.setIfInBounds_toArray, List.set_cons_zero, List.set_cons_succ])
                          refine bodyPost_ret (v := .agg #[.int .i64 x10_0, .int .i64 x9_0, .int .i64 0]) (res_c aT26 rfl _ gb333 #[.int .i64 x10_0, .int .i64 x9_0, .int .i64 0] BKb333.out rfl rfl) rfl ?_
                          exact ⟨by first | rfl | (simp; done) | (simp [*]; done), HL.out⟩
                        · rw [if_neg c373] at H
                          have c373b0 : decide (a2 ≤ x9_0) = false := decide_eq_false c373
                          have hc373 := hid c373
                          clear c373
                          by_cases c375 : x10_0 = (a0.size : Int)
                          · rw [if_pos c375] at H
                            have c375b0 : (x10_0 == (a0.size : Int)) = true := beq_iff_eq.mpr c375
                            have c375b1 : (x10_0 != (a0.size : Int)) = false := bne_eq_false_iff_eq.mpr c375
                            have hc375 := hid c375
                            clear c375
                            simp only [Option.some.injEq, Prod.mk.injEq] at H
                            obtain ⟨rfl, rfl, rfl⟩ := H
                            go_wp2_with (first
                              | ((with_reducible refine gate_d (N := 37) rfl ?_); refine ag_fix (.int .u8 (bt a0 x10_0.toNat)) (ex_ix 9 (.string a0) (.int .i64 x10_0) (.int .u8 (bt a0 x10_0.toNat)) (ix_txt a0 x10_0 hc354.out hc353.out) _ _ rfl rfl rfl) rfl ?_)
                              | ((with_reducible refine gate_d (N := 43) rfl ?_); refine ag_fix (.int .u8 (bt a0 x10_0.toNat)) (ex_ix 9 (.string a0) (.int .i64 x10_0) (.int .u8 (bt a0 x10_0.toNat)) (ix_txt a0 x10_0 hc354.out hc353.out) _ _ rfl rfl rfl) rfl ?_)
                              | ((with_reducible refine gate_d (N := 99) rfl ?_); refine ag_build (.agg #[.int .i64 x10_0, .int .i64 0, .int .i64 1]) _ rfl rfl ?_ ?_; (intro ww_; simp only [List.map_toArray, List.map_cons, List.map_nil]; kernel_rfl))
                              | ((with_reducible refine gate_s (t := 26) (p := 8) rfl ?_); refine ag_store aT26 gb333 0 #[.int .i64 0, .int .i64 0, .int .i64 0] #[.int .i64 x10_0, .int .i64 0, .int .i64 1] #[.int .i64 x10_0, .int .i64 0, .int .i64 1] BKb333.out rfl (by simp) (by intro v_ hv_; simp at hv_; rcases hv_ with rfl | rfl | rfl <;> rfl) rfl rfl _ _ rfl rfl rfl ?_; intro w376 ho_ hB_; replace HL := hid (ho_.below HL.out GEb333.out); replace BKb333 := hid hB_; clear ho_ hB_))
                            (try simp only [Act.put, List.setIfInBounds_toArray, List.set_cons_zero, List.set_cons_succ])
                            refine bodyPost_ret (v := .agg #[.int .i64 x10_0, .int .i64 0, .int .i64 1]) (res_c aT26 rfl _ gb333 #[.int .i64 x10_0, .int .i64 0, .int .i64 1] BKb333.out rfl rfl) rfl ?_
                            exact ⟨by first | rfl | (simp; done) | (simp [*]; done), HL.out⟩
                          · rw [if_neg c375] at H
                            have c375b0 : (x10_0 == (a0.size : Int)) = false := beq_eq_false_iff_ne.mpr c375
                            have c375b1 : (x10_0 != (a0.size : Int)) = true := bne_iff_ne.mpr c375
                            have hc375 := hid c375
                            clear c375
                            simp only [Option.some.injEq, Prod.mk.injEq] at H
                            obtain ⟨rfl, rfl, rfl⟩ := H
                            go_wp2_with (first
                              | ((with_reducible refine gate_d (N := 37) rfl ?_); refine ag_fix (.int .u8 (bt a0 x10_0.toNat)) (ex_ix 9 (.string a0) (.int .i64 x10_0) (.int .u8 (bt a0 x10_0.toNat)) (ix_txt a0 x10_0 hc354.out hc353.out) _ _ rfl rfl rfl) rfl ?_)
                              | ((with_reducible refine gate_d (N := 43) rfl ?_); refine ag_fix (.int .u8 (bt a0 x10_0.toNat)) (ex_ix 9 (.string a0) (.int .i64 x10_0) (.int .u8 (bt a0 x10_0.toNat)) (ix_txt a0 x10_0 hc354.out hc353.out) _ _ rfl rfl rfl) rfl ?_)
                              | ((with_reducible refine gate_d (N := 101) rfl ?_); refine ag_build (.agg #[.int .i64 x10_0, .int .i64 0, .int .i64 2]) _ rfl rfl ?_ ?_; (intro ww_; simp only [List.map_toArray, List.map_cons, List.map_nil]; kernel_rfl))
                              | ((with_reducible refine gate_s (t := 26) (p := 8) rfl ?_); refine ag_store aT26 gb333 0 #[.int .i64 0, .int .i64 0, .int .i64 0] #[.int .i64 x10_0, .int .i64 0, .int .i64 2] #[.int .i64 x10_0, .int .i64 0, .int .i64 2] BKb333.out rfl (by simp) (by intro v_ hv_; simp at hv_; rcases hv_ with rfl | rfl | rfl <;> rfl) rfl rfl _ _ rfl rfl rfl ?_; intro w377 ho_ hB_; replace HL := hid (ho_.below HL.out GEb333.out); replace BKb333 := hid hB_; clear ho_ hB_))
                            (try simp only [Act.put, List.setIfInBounds_toArray, List.set_cons_zero, List.set_cons_succ])
                            refine bodyPost_ret (v := .agg #[.int .i64 x10_0, .int .i64 0, .int .i64 2]) (res_c aT26 rfl _ gb333 #[.int .i64 x10_0, .int .i64 0, .int .i64 2] BKb333.out rfl rfl) rfl ?_
                            exact ⟨by first | rfl | (simp; done) | (simp [*]; done), HL.out⟩
                      · rw [if_neg c372] at H
                        have c372b0 : decide (a1 < x10_0) = false := decide_eq_false c372
                        have hc372 := hid c372
                        clear c372
                        by_cases c378 : x10_0 = (a0.size : Int)
                        · rw [if_pos c378] at H
                          have c378b0 : (x10_0 == (a0.size : Int)) = true := beq_iff_eq.mpr c378
                          have c378b1 : (x10_0 != (a0.size : Int)) = false := bne_eq_false_iff_eq.mpr c378
                          have hc378 := hid c378
                          clear c378
                          simp only [Option.some.injEq, Prod.mk.injEq] at H
                          obtain ⟨rfl, rfl, rfl⟩ := H
                          go_wp2_with (first
                            | ((with_reducible refine gate_d (N := 37) rfl ?_); refine ag_fix (.int .u8 (bt a0 x10_0.toNat)) (ex_ix 9 (.string a0) (.int .i64 x10_0) (.int .u8 (bt a0 x10_0.toNat)) (ix_txt a0 x10_0 hc354.out hc353.out) _ _ rfl rfl rfl) rfl ?_)
                            | ((with_reducible refine gate_d (N := 43) rfl ?_); refine ag_fix (.int .u8 (bt a0 x10_0.toNat)) (ex_ix 9 (.string a0) (.int .i64 x10_0) (.int .u8 (bt a0 x10_0.toNat)) (ix_txt a0 x10_0 hc354.out hc353.out) _ _ rfl rfl rfl) rfl ?_)
                            | ((with_reducible refine gate_d (N := 99) rfl ?_); refine ag_build (.agg #[.int .i64 x10_0, .int .i64 0, .int .i64 1]) _ rfl rfl ?_ ?_; (intro ww_; simp only [List.map_toArray, List.map_cons, List.map_nil]; kernel_rfl))
                            | ((with_reducible refine gate_s (t := 26) (p := 8) rfl ?_); refine ag_store aT26 gb333 0 #[.int .i64 0, .int .i64 0, .int .i64 0] #[.int .i64 x10_0, .int .i64 0, .int .i64 1] #[.int .i64 x10_0, .int .i64 0, .int .i64 1] BKb333.out rfl (by simp) (by intro v_ hv_; simp at hv_; rcases hv_ with rfl | rfl | rfl <;> rfl) rfl rfl _ _ rfl rfl rfl ?_; intro w379 ho_ hB_; replace HL := hid (ho_.below HL.out GEb333.out); replace BKb333 := hid hB_; clear ho_ hB_))
                          (try simp only [Act.put, List.setIfInBounds_toArray, List.set_cons_zero, List.set_cons_succ])
                          refine bodyPost_ret (v := .agg #[.int .i64 x10_0, .int .i64 0, .int .i64 1]) (res_c aT26 rfl _ gb333 #[.int .i64 x10_0, .int .i64 0, .int .i64 1] BKb333.out rfl rfl) rfl ?_
                          exact ⟨by first | rfl | (simp; done) | (simp [*]; done), HL.out⟩
                        · rw [if_neg c378] at H
                          have c378b0 : (x10_0 == (a0.size : Int)) = false := beq_eq_false_iff_ne.mpr c378
                          have c378b1 : (x10_0 != (a0.size : Int)) = true := bne_iff_ne.mpr c378
                          have hc378 := hid c378
                          clear c378
                          simp only [Option.some.injEq, Prod.mk.injEq] at H
                          obtain ⟨rfl, rfl, rfl⟩ := H
                          go_wp2_with (first
                            | ((with_reducible refine gate_d (N := 37) rfl ?_); refine ag_fix (.int .u8 (bt a0 x10_0.toNat)) (ex_ix 9 (.string a0) (.int .i64 x10_0) (.int .u8 (bt a0 x10_0.toNat)) (ix_txt a0 x10_0 hc354.out hc353.out) _ _ rfl rfl rfl) rfl ?_)
                            | ((with_reducible refine gate_d (N := 43) rfl ?_); refine ag_fix (.int .u8 (bt a0 x10_0.toNat)) (ex_ix 9 (.string a0) (.int .i64 x10_0) (.int .u8 (bt a0 x10_0.toNat)) (ix_txt a0 x10_0 hc354.out hc353.out) _ _ rfl rfl rfl) rfl ?_)
                            | ((with_reducible refine gate_d (N := 101) rfl ?_); refine ag_build (.agg #[.int .i64 x10_0, .int .i64 0, .int .i64 2]) _ rfl rfl ?_ ?_; (intro ww_; simp only [List.map_toArray, List.map_cons, List.map_nil]; kernel_rfl))
                            | ((with_reducible refine gate_s (t := 26) (p := 8) rfl ?_); refine ag_store aT26 gb333 0 #[.int .i64 0, .int .i64 0, .int .i64 0] #[.int .i64 x10_0, .int .i64 0, .int .i64 2] #[.int .i64 x10_0, .int .i64 0, .int .i64 2] BKb333.out rfl (by simp) (by intro v_ hv_; simp at hv_; rcases hv_ with rfl | rfl | rfl <;> rfl) rfl rfl _ _ rfl rfl rfl ?_; intro w380 ho_ hB_; replace HL := hid (ho_.below HL.out GEb333.out); replace BKb333 := hid hB_; clear ho_ hB_))
                          (try simp only [Act.put, List.setIfInBounds_toArray, List.set_cons_zero, List.set_cons_succ])
                          refine bodyPost_ret (v := .agg #[.int .i64 x10_0, .int .i64 0, .int .i64 2]) (res_c aT26 rfl _ gb333 #[.int .i64 x10_0, .int .i64 0, .int .i64 2] BKb333.out rfl rfl) rfl ?_
                          exact ⟨by first | rfl | (simp; done) | (simp [*]; done), HL.out⟩
                  · rw [if_neg c355] at H
                    have c355b0 : decide (48 ≤ (bt a0 x10_0.toNat)) = false := decide_eq_false c355
                    have hc355 := hid c355
                    clear c355
                    by_cases c381 : x10_0 > a1
                    · rw [if_pos c381] at H
                      have c381b0 : decide (a1 < x10_0) = true := decide_eq_true c381
                      have hc381 := hid c381
                      clear c381
                      by_cases c382 : x9_0 ≥ a2
                      · rw [if_pos c382] at H
                        have c382b0 : decide (a2 ≤ x9_0) = true := decide_eq_true c382
                        have hc382 := hid c382
                        clear c382
                        simp only [Option.some.injEq, Prod.mk.injEq] at H
                        obtain ⟨rfl, rfl, rfl⟩ := H
                        go_wp2_with (first
                          | ((with_reducible refine gate_d (N := 37) rfl ?_); refine ag_fix (.int .u8 (bt a0 x10_0.toNat)) (ex_ix 9 (.string a0) (.int .i64 x10_0) (.int .u8 (bt a0 x10_0.toNat)) (ix_txt a0 x10_0 hc354.out hc353.out) _ _ rfl rfl rfl) rfl ?_)
                          | ((with_reducible refine gate_d (N := 93) rfl ?_); refine ag_build (.agg #[.int .i64 x10_0, .int .i64 x9_0, .int .i64 0]) _ rfl rfl ?_ ?_; (intro ww_; simp only [List.map_toArray, List.map_cons, List.map_nil]; kernel_rfl))
                          | ((with_reducible refine gate_s (t := 26) (p := 8) rfl ?_); refine ag_store aT26 gb333 0 #[.int .i64 0, .int .i64 0, .int .i64 0] #[.int .i64 x10_0, .int .i64 x9_0, .int .i64 0] #[.int .i64 x10_0, .int .i64 x9_0, .int .i64 0] BKb333.out rfl (by simp) (by intro v_ hv_; simp at hv_; rcases hv_ with rfl | rfl | rfl <;> rfl) rfl rfl _ _ rfl rfl rfl ?_; intro w383 ho_ hB_; replace HL := hid (ho_.below HL.out GEb333.out); replace BKb333 := hid hB_; clear ho_ hB_))
                        (try simp only [Act.put, List.setIfInBounds_toArray, List.set_cons_zero, List.set_cons_succ])
                        refine bodyPost_ret (v := .agg #[.int .i64 x10_0, .int .i64 x9_0, .int .i64 0]) (res_c aT26 rfl _ gb333 #[.int .i64 x10_0, .int .i64 x9_0, .int .i64 0] BKb333.out rfl rfl) rfl ?_
                        exact ⟨by first | rfl | (simp; done) | (simp [*]; done), HL.out⟩
                      · rw [if_neg c382] at H
                        have c382b0 : decide (a2 ≤ x9_0) = false := decide_eq_false c382
                        have hc382 := hid c382
                        clear c382
                        by_cases c384 : x10_0 = (a0.size : Int)
                        · rw [if_pos c384] at H
                          have c384b0 : (x10_0 == (a0.size : Int)) = true := beq_iff_eq.mpr c384
                          have c384b1 : (x10_0 != (a0.size : Int)) = false := bne_eq_false_iff_eq.mpr c384
                          have hc384 := hid c384
                          clear c384
                          simp only [Option.some.injEq, Prod.mk.injEq] at H
                          obtain ⟨rfl, rfl, rfl⟩ := H
                          go_wp2_with (first
                            | ((with_reducible refine gate_d (N := 37) rfl ?_); refine ag_fix (.int .u8 (bt a0 x10_0.toNat)) (ex_ix 9 (.string a0) (.int .i64 x10_0) (.int .u8 (bt a0 x10_0.toNat)) (ix_txt a0 x10_0 hc354.out hc353.out) _ _ rfl rfl rfl) rfl ?_)
                            | ((with_reducible refine gate_d (N := 99) rfl ?_); refine ag_build (.agg #[.int .i64 x10_0, .int .i64 0, .int .i64 1]) _ rfl rfl ?_ ?_; (intro ww_; simp only [List.map_toArray, List.map_cons, List.map_nil]; kernel_rfl))
                            | ((with_reducible refine gate_s (t := 26) (p := 8) rfl ?_); refine ag_store aT26 gb333 0 #[.int .i64 0, .int .i64 0, .int .i64 0] #[.int .i64 x10_0, .int .i64 0, .int .i64 1] #[.int .i64 x10_0, .int .i64 0, .int .i64 1] BKb333.out rfl (by simp) (by intro v_ hv_; simp at hv_; rcases hv_ with rfl | rfl | rfl <;> rfl) rfl rfl _ _ rfl rfl rfl ?_; intro w385 ho_ hB_; replace HL := hid (ho_.below HL.out GEb333.out); replace BKb333 := hid hB_; clear ho_ hB_))
                          (try simp only [Act.put, List.setIfInBounds_toArray, List.set_cons_zero, List.set_cons_succ])
                          refine bodyPost_ret (v := .agg #[.int .i64 x10_0, .int .i64 0, .int .i64 1]) (res_c aT26 rfl _ gb333 #[.int .i64 x10_0, .int .i64 0, .int .i64 1] BKb333.out rfl rfl) rfl ?_
                          exact ⟨by first | rfl | (simp; done) | (simp [*]; done), HL.out⟩
                        · rw [if_neg c384] at H
                          have c384b0 : (x10_0 == (a0.size : Int)) = false := beq_eq_false_iff_ne.mpr c384
                          have c384b1 : (x10_0 != (a0.size : Int)) = true := bne_iff_ne.mpr c384
                          have hc384 := hid c384
                          clear c384
                          simp only [Option.some.injEq, Prod.mk.injEq] at H
                          obtain ⟨rfl, rfl, rfl⟩ := H
                          go_wp2_with (first
                            | ((with_reducible refine gate_d (N := 37) rfl ?_); refine ag_fix (.int .u8 (bt a0 x10_0.toNat)) (ex_ix 9 (.string a0) (.int .i64 x10_0) (.int .u8 (bt a0 x10_0.toNat)) (ix_txt a0 x10_0 hc354.out hc353.out) _ _ rfl rfl rfl) rfl ?_)
                            | ((with_reducible refine gate_d (N := 101) rfl ?_); refine ag_build (.agg #[.int .i64 x10_0, .int .i64 0, .int .i64 2]) _ rfl rfl ?_ ?_; (intro ww_; simp only [List.map_toArray, List.map_cons, List.map_nil]; kernel_rfl))
                            | ((with_reducible refine gate_s (t := 26) (p := 8) rfl ?_); refine ag_store aT26 gb333 0 #[.int .i64 0, .int .i64 0, .int .i64 0] #[.int .i64 x10_0, .int .i64 0, .int .i64 2] #[.int .i64 x10_0, .int .i64 0, .int .i64 2] BKb333.out rfl (by simp) (by intro v_ hv_; simp at hv_; rcases hv_ with rfl | rfl | rfl <;> rfl) rfl rfl _ _ rfl rfl rfl ?_; intro w386 ho_ hB_; replace HL := hid (ho_.below HL.out GEb333.out); replace BKb333 := hid hB_; clear ho_ hB_))
                          (try simp only [Act.put, List.setIfInBounds_toArray, List.set_cons_zero, List.set_cons_succ])
                          refine bodyPost_ret (v := .agg #[.int .i64 x10_0, .int .i64 0, .int .i64 2]) (res_c aT26 rfl _ gb333 #[.int .i64 x10_0, .int .i64 0, .int .i64 2] BKb333.out rfl rfl) rfl ?_
                          exact ⟨by first | rfl | (simp; done) | (simp [*]; done), HL.out⟩
                    · rw [if_neg c381] at H
                      have c381b0 : decide (a1 < x10_0) = false := decide_eq_false c381
                      have hc381 := hid c381
                      clear c381
                      by_cases c387 : x10_0 = (a0.size : Int)
                      · rw [if_pos c387] at H
                        have c387b0 : (x10_0 == (a0.size : Int)) = true := beq_iff_eq.mpr c387
                        have c387b1 : (x10_0 != (a0.size : Int)) = false := bne_eq_false_iff_eq.mpr c387
                        have hc387 := hid c387
                        clear c387
                        simp only [Option.some.injEq, Prod.mk.injEq] at H
                        obtain ⟨rfl, rfl, rfl⟩ := H
                        go_wp2_with (first
                          | ((with_reducible refine gate_d (N := 37) rfl ?_); refine ag_fix (.int .u8 (bt a0 x10_0.toNat)) (ex_ix 9 (.string a0) (.int .i64 x10_0) (.int .u8 (bt a0 x10_0.toNat)) (ix_txt a0 x10_0 hc354.out hc353.out) _ _ rfl rfl rfl) rfl ?_)
                          | ((with_reducible refine gate_d (N := 99) rfl ?_); refine ag_build (.agg #[.int .i64 x10_0, .int .i64 0, .int .i64 1]) _ rfl rfl ?_ ?_; (intro ww_; simp only [List.map_toArray, List.map_cons, List.map_nil]; kernel_rfl))
                          | ((with_reducible refine gate_s (t := 26) (p := 8) rfl ?_); refine ag_store aT26 gb333 0 #[.int .i64 0, .int .i64 0, .int .i64 0] #[.int .i64 x10_0, .int .i64 0, .int .i64 1] #[.int .i64 x10_0, .int .i64 0, .int .i64 1] BKb333.out rfl (by simp) (by intro v_ hv_; simp at hv_; rcases hv_ with rfl | rfl | rfl <;> rfl) rfl rfl _ _ rfl rfl rfl ?_; intro w388 ho_ hB_; replace HL := hid (ho_.below HL.out GEb333.out); replace BKb333 := hid hB_; clear ho_ hB_))
                        (try simp only [Act.put, List.setIfInBounds_toArray, List.set_cons_zero, List.set_cons_succ])
                        refine bodyPost_ret (v := .agg #[.int .i64 x10_0, .int .i64 0, .int .i64 1]) (res_c aT26 rfl _ gb333 #[.int .i64 x10_0, .int .i64 0, .int .i64 1] BKb333.out rfl rfl) rfl ?_
                        exact ⟨by first | rfl | (simp; done) | (simp [*]; done), HL.out⟩
                      · rw [if_neg c387] at H
                        have c387b0 : (x10_0 == (a0.size : Int)) = false := beq_eq_false_iff_ne.mpr c387
                        have c387b1 : (x10_0 != (a0.size : Int)) = true := bne_iff_ne.mpr c387
                        have hc387 := hid c387
                        clear c387
                        simp only [Option.some.injEq, Prod.mk.injEq] at H
                        obtain ⟨rfl, rfl, rfl⟩ := H
                        go_wp2_with (first
                          | ((with_reducible refine gate_d (N := 37) rfl ?_); refine ag_fix (.int .u8 (bt a0 x10_0.toNat)) (ex_ix 9 (.string a0) (.int .i64 x10_0) (.int .u8 (bt a0 x10_0.toNat)) (ix_txt a0 x10_0 hc354.out hc353.out) _ _ rfl rfl rfl) rfl ?_)
                          | ((with_reducible refine gate_d (N := 101) rfl ?_); refine ag_build (.agg #[.int .i64 x10_0, .int .i64 0, .int .i64 2]) _ rfl rfl ?_ ?_; (intro ww_; simp only [List.map_toArray, List.map_cons, List.map_nil]; kernel_rfl))
                          | ((with_reducible refine gate_s (t := 26) (p := 8) rfl ?_); refine ag_store aT26 gb333 0 #[.int .i64 0, .int .i64 0, .int .i64 0] #[.int .i64 x10_0, .int .i64 0, .int .i64 2] #[.int .i64 x10_0, .int .i64 0, .int .i64 2] BKb333.out rfl (by simp) (by intro v_ hv_; simp at hv_; rcases hv_ with rfl | rfl | rfl <;> rfl) rfl rfl _ _ rfl rfl rfl ?_; intro w389 ho_ hB_; replace HL := hid (ho_.below HL.out GEb333.out); replace BKb333 := hid hB_; clear ho_ hB_))
                        (try simp only [Act.put, List.setIfInBounds_toArray, List.set_cons_zero, List.set_cons_succ])
                        refine bodyPost_ret (v := .agg #[.int .i64 x10_0, .int .i64 0, .int .i64 2]) (res_c aT26 rfl _ gb333 #[.int .i64 x10_0, .int .i64 0, .int .i64 2] BKb333.out rfl rfl) rfl ?_
                        exact ⟨by first | rfl | (simp; done) | (simp [*]; done), HL.out⟩
                · rw [if_neg c354] at H
                  exact absurd H (by simp)
              · rw [if_neg c353] at H
                have c353b0 : decide (x10_0 < (a0.size : Int)) = false := decide_eq_false c353
                have hc353 := hid c353
                clear c353
                by_cases c390 : x10_0 > a1
                · rw [if_pos c390] at H
                  have c390b0 : decide (a1 < x10_0) = true := decide_eq_true c390
                  have hc390 := hid c390
                  clear c390
                  by_cases c391 : x9_0 ≥ a2
                  · rw [if_pos c391] at H
                    have c391b0 : decide (a2 ≤ x9_0) = true := decide_eq_true c391
                    have hc391 := hid c391
                    clear c391
                    simp only [Option.some.injEq, Prod.mk.injEq] at H
                    obtain ⟨rfl, rfl, rfl⟩ := H
                    go_wp2_with (first
                      | ((with_reducible refine gate_d (N := 93) rfl ?_); refine ag_build (.agg #[.int .i64 x10_0, .int .i64 x9_0, .int .i64 0]) _ rfl rfl ?_ ?_; (intro ww_; simp only [List.map_toArray, List.map_cons, List.map_nil]; kernel_rfl))
                      | ((with_reducible refine gate_s (t := 26) (p := 8) rfl ?_); refine ag_store aT26 gb333 0 #[.int .i64 0, .int .i64 0, .int .i64 0] #[.int .i64 x10_0, .int .i64 x9_0, .int .i64 0] #[.int .i64 x10_0, .int .i64 x9_0, .int .i64 0] BKb333.out rfl (by simp) (by intro v_ hv_; simp at hv_; rcases hv_ with rfl | rfl | rfl <;> rfl) rfl rfl _ _ rfl rfl rfl ?_; intro w392 ho_ hB_; replace HL := hid (ho_.below HL.out GEb333.out); replace BKb333 := hid hB_; clear ho_ hB_))
                    (try simp only [Act.put, List.setIfInBounds_toArray, List.set_cons_zero, List.set_cons_succ])
                    refine bodyPost_ret (v := .agg #[.int .i64 x10_0, .int .i64 x9_0, .int .i64 0]) (res_c aT26 rfl _ gb333 #[.int .i64 x10_0, .int .i64 x9_0, .int .i64 0] BKb333.out rfl rfl) rfl ?_
                    exact ⟨by first | rfl | (simp; done) | (simp [*]; done), HL.out⟩
                  · rw [if_neg c391] at H
                    have c391b0 : decide (a2 ≤ x9_0) = false := decide_eq_false c391
                    have hc391 := hid c391
                    clear c391
                    by_cases c393 : x10_0 = (a0.size : Int)
                    · rw [if_pos c393] at H
                      have c393b0 : (x10_0 == (a0.size : Int)) = true := beq_iff_eq.mpr c393
                      have c393b1 : (x10_0 != (a0.size : Int)) = false := bne_eq_false_iff_eq.mpr c393
                      have hc393 := hid c393
                      clear c393
                      simp only [Option.some.injEq, Prod.mk.injEq] at H
                      obtain ⟨rfl, rfl, rfl⟩ := H
                      go_wp2_with (first
                        | ((with_reducible refine gate_d (N := 99) rfl ?_); refine ag_build (.agg #[.int .i64 x10_0, .int .i64 0, .int .i64 1]) _ rfl rfl ?_ ?_; (intro ww_; simp only [List.map_toArray, List.map_cons, List.map_nil]; kernel_rfl))
                        | ((with_reducible refine gate_s (t := 26) (p := 8) rfl ?_); refine ag_store aT26 gb333 0 #[.int .i64 0, .int .i64 0, .int .i64 0] #[.int .i64 x10_0, .int .i64 0, .int .i64 1] #[.int .i64 x10_0, .int .i64 0, .int .i64 1] BKb333.out rfl (by simp) (by intro v_ hv_; simp at hv_; rcases hv_ with rfl | rfl | rfl <;> rfl) rfl rfl _ _ rfl rfl rfl ?_; intro w394 ho_ hB_; replace HL := hid (ho_.below HL.out GEb333.out); replace BKb333 := hid hB_; clear ho_ hB_))
                      (try simp only [Act.put, List.setIfInBounds_toArray, List.set_cons_zero, List.set_cons_succ])
                      refine bodyPost_ret (v := .agg #[.int .i64 x10_0, .int .i64 0, .int .i64 1]) (res_c aT26 rfl _ gb333 #[.int .i64 x10_0, .int .i64 0, .int .i64 1] BKb333.out rfl rfl) rfl ?_
                      exact ⟨by first | rfl | (simp; done) | (simp [*]; done), HL.out⟩
                    · rw [if_neg c393] at H
                      have c393b0 : (x10_0 == (a0.size : Int)) = false := beq_eq_false_iff_ne.mpr c393
                      have c393b1 : (x10_0 != (a0.size : Int)) = true := bne_iff_ne.mpr c393
                      have hc393 := hid c393
                      clear c393
                      simp only [Option.some.injEq, Prod.mk.injEq] at H
                      obtain ⟨rfl, rfl, rfl⟩ := H
                      go_wp2_with (first
                        | ((with_reducible refine gate_d (N := 101) rfl ?_); refine ag_build (.agg #[.int .i64 x10_0, .int .i64 0, .int .i64 2]) _ rfl rfl ?_ ?_; (intro ww_; simp only [List.map_toArray, List.map_cons, List.map_nil]; kernel_rfl))
                        | ((with_reducible refine gate_s (t := 26) (p := 8) rfl ?_); refine ag_store aT26 gb333 0 #[.int .i64 0, .int .i64 0, .int .i64 0] #[.int .i64 x10_0, .int .i64 0, .int .i64 2] #[.int .i64 x10_0, .int .i64 0, .int .i64 2] BKb333.out rfl (by simp) (by intro v_ hv_; simp at hv_; rcases hv_ with rfl | rfl | rfl <;> rfl) rfl rfl _ _ rfl rfl rfl ?_; intro w395 ho_ hB_; replace HL := hid (ho_.below HL.out GEb333.out); replace BKb333 := hid hB_; clear ho_ hB_))
                      (try simp only [Act.put, List.setIfInBounds_toArray, List.set_cons_zero, List.set_cons_succ])
                      refine bodyPost_ret (v := .agg #[.int .i64 x10_0, .int .i64 0, .int .i64 2]) (res_c aT26 rfl _ gb333 #[.int .i64 x10_0, .int .i64 0, .int .i64 2] BKb333.out rfl rfl) rfl ?_
                      exact ⟨by first | rfl | (simp; done) | (simp [*]; done), HL.out⟩
                · rw [if_neg c390] at H
                  have c390b0 : decide (a1 < x10_0) = false := decide_eq_false c390
                  have hc390 := hid c390
                  clear c390
                  by_cases c396 : x10_0 = (a0.size : Int)
                  · rw [if_pos c396] at H
                    have c396b0 : (x10_0 == (a0.size : Int)) = true := beq_iff_eq.mpr c396
                    have c396b1 : (x10_0 != (a0.size : Int)) = false := bne_eq_false_iff_eq.mpr c396
                    have hc396 := hid c396
                    clear c396
                    simp only [Option.some.injEq, Prod.mk.injEq] at H
                    obtain ⟨rfl, rfl, rfl⟩ := H
                    go_wp2_with (first
                      | ((with_reducible refine gate_d (N := 99) rfl ?_); refine ag_build (.agg #[.int .i64 x10_0, .int .i64 0, .int .i64 1]) _ rfl rfl ?_ ?_; (intro ww_; simp only [List.map_toArray, List.map_cons, List.map_nil]; kernel_rfl))
                      | ((with_reducible refine gate_s (t := 26) (p := 8) rfl ?_); refine ag_store aT26 gb333 0 #[.int .i64 0, .int .i64 0, .int .i64 0] #[.int .i64 x10_0, .int .i64 0, .int .i64 1] #[.int .i64 x10_0, .int .i64 0, .int .i64 1] BKb333.out rfl (by simp) (by intro v_ hv_; simp at hv_; rcases hv_ with rfl | rfl | rfl <;> rfl) rfl rfl _ _ rfl rfl rfl ?_; intro w397 ho_ hB_; replace HL := hid (ho_.below HL.out GEb333.out); replace BKb333 := hid hB_; clear ho_ hB_))
                    (try simp only [Act.put, List.setIfInBounds_toArray, List.set_cons_zero, List.set_cons_succ])
                    refine bodyPost_ret (v := .agg #[.int .i64 x10_0, .int .i64 0, .int .i64 1]) (res_c aT26 rfl _ gb333 #[.int .i64 x10_0, .int .i64 0, .int .i64 1] BKb333.out rfl rfl) rfl ?_
                    exact ⟨by first | rfl | (simp; done) | (simp [*]; done), HL.out⟩
                  · rw [if_neg c396] at H
                    have c396b0 : (x10_0 == (a0.size : Int)) = false := beq_eq_false_iff_ne.mpr c396
                    have c396b1 : (x10_0 != (a0.size : Int)) = true := bne_iff_ne.mpr c396
                    have hc396 := hid c396
                    clear c396
                    simp only [Option.some.injEq, Prod.mk.injEq] at H
                    obtain ⟨rfl, rfl, rfl⟩ := H
                    go_wp2_with (first
                      | ((with_reducible refine gate_d (N := 101) rfl ?_); refine ag_build (.agg #[.int .i64 x10_0, .int .i64 0, .int .i64 2]) _ rfl rfl ?_ ?_; (intro ww_; simp only [List.map_toArray, List.map_cons, List.map_nil]; kernel_rfl))
                      | ((with_reducible refine gate_s (t := 26) (p := 8) rfl ?_); refine ag_store aT26 gb333 0 #[.int .i64 0, .int .i64 0, .int .i64 0] #[.int .i64 x10_0, .int .i64 0, .int .i64 2] #[.int .i64 x10_0, .int .i64 0, .int .i64 2] BKb333.out rfl (by simp) (by intro v_ hv_; simp at hv_; rcases hv_ with rfl | rfl | rfl <;> rfl) rfl rfl _ _ rfl rfl rfl ?_; intro w398 ho_ hB_; replace HL := hid (ho_.below HL.out GEb333.out); replace BKb333 := hid hB_; clear ho_ hB_))
                    (try simp only [Act.put, List.setIfInBounds_toArray, List.set_cons_zero, List.set_cons_succ])
                    refine bodyPost_ret (v := .agg #[.int .i64 x10_0, .int .i64 0, .int .i64 2]) (res_c aT26 rfl _ gb333 #[.int .i64 x10_0, .int .i64 0, .int .i64 2] BKb333.out rfl rfl) rfl ?_
                    exact ⟨by first | rfl | (simp; done) | (simp [*]; done), HL.out⟩
  | false =>
    rw [if_neg (show ¬ (false = true) by decide)] at H
    simp only [Option.some.injEq, Prod.mk.injEq] at H
    obtain ⟨rfl, rfl, rfl⟩ := H
    go_enter Try.func15, Try.ntmps15
    have k400 := True.intro
    go_wp2_with (first
      | ((with_reducible refine gate_d (N := 8) rfl ?_); obtain ⟨gb333, hgb333⟩ : ∃ g_, w.heap.size = g_ := ⟨_, rfl⟩; refine ag_alloc aT26 gb333 hgb333 rfl rfl ?_; intro w399 hb_ hB_ hs_; have GEb333 : Hid (w.heap.size ≤ gb333) := hid (by have := HL.out.size; omega); replace HL := hid (HL.out.trans (hb_.mono GEb333.out)); have BKb333 := hid hB_; clear hb_ hB_ hs_ hgb333)
      | (go_at_call 29; clear k400; refine (i_alfilref14_There.calls a0 a1 false _ A335.out).mono ?_; rintro e_ w' ⟨rfl, rfl⟩)
      | ((with_reducible refine gate_d (N := 28) rfl ?_); refine ag_build (.agg #[.int .i64 0, .int .i64 0, .int .i64 5]) _ rfl rfl ?_ ?_; (intro ww_; simp only [List.map_toArray, List.map_cons, List.map_nil]; kernel_rfl))
      | ((with_reducible refine gate_s (t := 26) (p := 8) rfl ?_); refine ag_store aT26 gb333 0 #[.int .i64 0, .int .i64 0, .int .i64 0] #[.int .i64 0, .int .i64 0, .int .i64 5] #[.int .i64 0, .int .i64 0, .int .i64 5] BKb333.out rfl (by simp) (by intro v_ hv_; simp at hv_; rcases hv_ with rfl | rfl | rfl <;> rfl) rfl rfl _ _ rfl rfl rfl ?_; intro w401 ho_ hB_; replace HL := hid (ho_.below HL.out GEb333.out); replace BKb333 := hid hB_; clear ho_ hB_))
    (try simp only [Act.put, List.setIfInBounds_toArray, List.set_cons_zero, List.set_cons_succ])
    refine bodyPost_ret (v := .agg #[.int .i64 0, .int .i64 0, .int .i64 5]) (res_c aT26 rfl _ gb333 #[.int .i64 0, .int .i64 0, .int .i64 5] BKb333.out rfl rfl) rfl ?_
    exact ⟨by first | rfl | (simp; done) | (simp [*]; done), HL.out⟩
end Go.Proofs.Ytabbkeliknidgaa
