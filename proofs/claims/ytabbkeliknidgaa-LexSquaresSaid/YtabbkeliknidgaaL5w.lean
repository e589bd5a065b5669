/- The walks of squares that are read. -/
import Derived.Test.YtabbkeliknidgaaProg
import Derived.Test.YtabbkeliknidgaaL1w
namespace Go.Proofs.Ytabbkeliknidgaa
open Go.RowKit
set_option linter.unusedVariables false
set_option linter.unusedSimpArgs false
theorem aT30_agg (w : World) : (isAgg 30).run Try.prog w = .ok true w := by kernel_rfl
theorem aT30_size (w : World) : (sizeOf 30).run Try.prog w = .ok 2 w := by kernel_rfl
theorem aT30_zero (w : World) : (zeroValue 30).run Try.prog w = .ok (.agg (av (Value.int .i64) (List.replicate 2 (0 : Int)))) w := by kernel_rfl
theorem aT30 : AggT Try.prog 30 2 (av (Value.int .i64) (List.replicate 2 (0 : Int))) := ⟨aT30_agg, aT30_size, aT30_zero, by first | rfl | decide⟩
theorem uT30 : Try.prog.underlying 30 = some (.array 2 3) := by kernel_rfl
theorem aT38_agg (w : World) : (isAgg 38).run Try.prog w = .ok true w := by kernel_rfl
theorem aT38_size (w : World) : (sizeOf 38).run Try.prog w = .ok 4 w := by kernel_rfl
theorem aT38_zero (w : World) : (zeroValue 38).run Try.prog w = .ok (.agg #[.string (⟨#[]⟩ : ByteArray), .int .i64 0, .int .i64 0, .int .i64 0]) w := by kernel_rfl
theorem aT38 : AggT Try.prog 38 4 #[.string (⟨#[]⟩ : ByteArray), .int .i64 0, .int .i64 0, .int .i64 0] := ⟨aT38_agg, aT38_size, aT38_zero, by first | rfl | decide⟩
/-! i_square_on: function 69 -/
def i_square_on.f (a0 : Int) : Option (Bool) := if a0 ≥ 0 then (some (decide (a0 < 8))) else (some false)
set_option maxHeartbeats 40000000 in
set_option maxRecDepth 100000 in
theorem i_square_on.calls (a0 : Int) (r1 : Bool) (w : World) (h : i_square_on.f a0 = some r1) :
    Calls Try.prog 69 #[.int .i64 a0] w fun e w' => e = .returned (.bool r1) ∧ w = w' := by
  have H : (if a0 ≥ 0 then (some (decide (a0 < 8))) else (some false)) = some r1 := h
  clear h
  by_cases c333 : a0 ≥ 0
  · rw [if_pos c333] at H
    have c333b0 : decide (0 ≤ a0) = true := decide_eq_true c333
    have hc333 := hid c333
    clear c333
    obtain rfl := Option.some.inj H
    clear H
    go_enter Try.func69, Try.ntmps69
    go_wp2_with fail
    (try simp only [Act.put, List.setIfInBounds_toArray, List.set_cons_zero, List.set_cons_succ])
    go_ret
    exact ⟨by first | rfl | (simp; done) | (simp [*]; done), rfl⟩
  · rw [if_neg c333] at H
    have c333b0 : decide (0 ≤ a0) = false := decide_eq_false c333
    have hc333 := hid c333
    clear c333
    obtain rfl := Option.some.inj H
    clear H
    go_enter Try.func69, Try.ntmps69
    go_wp2_with fail
    (try simp only [Act.put, List.setIfInBounds_toArray, List.set_cons_zero, List.set_cons_succ])
    go_ret
    exact ⟨by first | rfl | (simp; done) | (simp [*]; done), rfl⟩
/-! i_square_At: function 46 -/
def i_square_At.f (a0 : Int) (a1 : Int) : Option (Int × Bool) := (i_square_on.f a0).bind fun t334 => (if t334 = true then ((i_square_on.f a1).bind fun t335 => (if t335 = true then (some (wrap64 ((wrap64 (8 * a1)) + a0), true)) else (some (0, false)))) else (some (0, false)))
set_option maxHeartbeats 40000000 in
set_option maxRecDepth 100000 in
theorem i_square_At.calls (a0 : Int) (a1 : Int) (r1 : Int) (r2 : Bool) (w : World) (h : i_square_At.f a0 a1 = some (r1, r2)) :
    Calls Try.prog 46 #[.int .i64 a0, .int .i64 a1] w fun e w' => e = .returned (.tuple #[.int .i64 r1, .bool r2]) ∧ w = w' := by
  have H : ((i_square_on.f a0).bind fun t334 => (if t334 = true then ((i_square_on.f a1).bind fun t335 => (if t335 = true then (some (wrap64 ((wrap64 (8 * a1)) + a0), true)) else (some (0, false)))) else (some (0, false)))) = some (r1, r2) := h
  clear h
  replace H := Option.bind_eq_some_iff.mp H
  obtain ⟨t334, A336_, H⟩ := H
  replace H : (if t334 = true then ((i_square_on.f a1).bind fun t335 => (if t335 = true then (some (wrap64 ((wrap64 (8 * a1)) + a0), true)) else (some (0, false)))) else (some (0, false))) = some (r1, r2) := H
  have A336 := hid A336_
  clear A336_
  cases t334 with
  | true =>
    rw [if_pos rfl] at H
    replace H := Option.bind_eq_some_iff.mp H
    obtain ⟨t335, A338_, H⟩ := H
    replace H : (if t335 = true then (some (wrap64 ((wrap64 (8 * a1)) + a0), true)) else (some (0, false))) = some (r1, r2) := H
    have A338 := hid A338_
    clear A338_
    cases t335 with
    | true =>
      rw [if_pos rfl] at H
      simp only [Option.some.injEq, Prod.mk.injEq] at H
      obtain ⟨rfl, rfl⟩ := H
      go_enter Try.func46, Try.ntmps46
      have k340 := True.intro
      have k341 := True.intro
      go_wp2_with (first
        | (go_at_call 69; clear k340; refine (i_square_on.calls a0 true _ A336.out).mono ?_; rintro e_ w' ⟨rfl, rfl⟩)
        | (go_at_call 69; clear k341; refine (i_square_on.calls a1 true _ A338.out).mono ?_; rintro e_ w' ⟨rfl, rfl⟩))
      (try simp only [Act.put, List.setIfInBounds_toArray, List.set_cons_zero, List.set_cons_succ])
      go_ret2
      exact ⟨by first | rfl | (simp; done) | (simp [*]; done), rfl⟩
    | false =>
      rw [if_neg (show ¬ (false = true) by decide)] at H
      simp only [Option.some.injEq, Prod.mk.injEq] at H
      obtain ⟨rfl, rfl⟩ := H
      go_enter Try.func46, Try.ntmps46
      have k342 := True.intro
      have k343 := True.intro
      go_wp2_with (first
        | (go_at_call 69; clear k342; refine (i_square_on.calls a0 true _ A336.out).mono ?_; rintro e_ w' ⟨rfl, rfl⟩)
        | (go_at_call 69; clear k343; refine (i_square_on.calls a1 false _ A338.out).mono ?_; rintro e_ w' ⟨rfl, rfl⟩))
      (try simp only [Act.put, List.setIfInBounds_toArray, List.set_cons_zero, List.set_cons_succ])
      go_ret2
      exact ⟨by first | rfl | (simp; done) | (simp [*]; done), rfl⟩
  | false =>
    rw [if_neg (show ¬ (false = true) by decide)] at H
    simp only [Option.some.injEq, Prod.mk.injEq] at H
    obtain ⟨rfl, rfl⟩ := H
    go_enter Try.func46, Try.ntmps46
    have k344 := True.intro
    go_wp2_with (first
      | (go_at_call 69; clear k344; refine (i_square_on.calls a0 false _ A336.out).mono ?_; rintro e_ w' ⟨rfl, rfl⟩))
    (try simp only [Act.put, List.setIfInBounds_toArray, List.set_cons_zero, List.set_cons_succ])
    go_ret2
    exact ⟨by first | rfl | (simp; done) | (simp [*]; done), rfl⟩
/-! i_square_Parse: function 34 -/
def i_square_Parse.l0 : Nat → ByteArray → Int → List Int → Nat → Option (Int × Bool)
  | 0, _, _, _, _ => none
  | k + 1, a0, x5_0, yb345_0_0, yb346_0_0 => if yb346_0_0 < a0.size then (if x5_0 = 0 then (if ((Utf8.decode a0 yb346_0_0).1 : Int) ≥ 97 then (if ((Utf8.decode a0 yb346_0_0).1 : Int) ≤ 104 then (i_square_Parse.l0 k a0 (wrap64 (x5_0 + 1)) (yb345_0_0.set 0 (wrap64 (wrap32 (((Utf8.decode a0 yb346_0_0).1 : Int) - 97)))) (yb346_0_0 + (Utf8.decode a0 yb346_0_0).2)) else (if x5_0 = 1 then (if ((Utf8.decode a0 yb346_0_0).1 : Int) ≥ 49 then (if ((Utf8.decode a0 yb346_0_0).1 : Int) ≤ 56 then (i_square_Parse.l0 k a0 (wrap64 (x5_0 + 1)) (yb345_0_0.set 1 (wrap64 (wrap32 (((Utf8.decode a0 yb346_0_0).1 : Int) - 49)))) (yb346_0_0 + (Utf8.decode a0 yb346_0_0).2)) else (some (0, false))) else (some (0, false))) else (some (0, false)))) else (if x5_0 = 1 then (if ((Utf8.decode a0 yb346_0_0).1 : Int) ≥ 49 then (if ((Utf8.decode a0 yb346_0_0).1 : Int) ≤ 56 then (i_square_Parse.l0 k a0 (wrap64 (x5_0 + 1)) (yb345_0_0.set 1 (wrap64 (wrap32 (((Utf8.decode a0 yb346_0_0).1 : Int) - 49)))) (yb346_0_0 + (Utf8.decode a0 yb346_0_0).2)) else (some (0, false))) else (some (0, false))) else (some (0, false)))) else (if x5_0 = 1 then (if ((Utf8.decode a0 yb346_0_0).1 : Int) ≥ 49 then (if ((Utf8.decode a0 yb346_0_0).1 : Int) ≤ 56 then (i_square_Parse.l0 k a0 (wrap64 (x5_0 + 1)) (yb345_0_0.set 1 (wrap64 (wrap32 (((Utf8.decode a0 yb346_0_0).1 : Int) - 49)))) (yb346_0_0 + (Utf8.decode a0 yb346_0_0).2)) else (some (0, false))) else (some (0, false))) else (some (0, false)))) else (if x5_0 = 2 then ((i_square_At.f (nt yb345_0_0 0 0) (nt yb345_0_0 1 0)).bind fun bt349 => (some (bt349.1, bt349.2))) else (some (0, false)))
def i_square_Parse.f (k : Nat) (a0 : ByteArray) : Option (Int × Bool) := i_square_Parse.l0 k a0 0 (List.replicate 2 (0 : Int)) 0
set_option maxHeartbeats 40000000 in
set_option maxRecDepth 100000 in
theorem i_square_Parse.calls (k : Nat) (a0 : ByteArray) (r1 : Int) (r2 : Bool) (w : World) (h : i_square_Parse.f k a0 = some (r1, r2)) :
    Calls Try.prog 34 #[.string a0] w fun e w' => e = .returned (.tuple #[.int .i64 r1, .bool r2]) ∧ Below w.heap.size w w' := by
  have HL := hid (Below.refl w.heap.size w)
  have H : (i_square_Parse.l0 k a0 0 (List.replicate 2 (0 : Int)) 0) = some (r1, r2) := h
  clear h
  have H' := hid H
  clear H
  go_enter Try.func34, Try.ntmps34
  go_wp2_with (first
    | ((with_reducible refine gate_d (N := 4) rfl ?_); obtain ⟨gb345, hgb345⟩ : ∃ g_, w.heap.size = g_ := ⟨_, rfl⟩; refine ag_alloc aT30 gb345 hgb345 rfl rfl ?_; intro w351 hb_ hB_ hs_; have GEb345 : Hid (w.heap.size ≤ gb345) := hid (by have := HL.out.size; omega); replace HL := hid (HL.out.trans (hb_.mono GEb345.out)); have BKb345 := hid hB_; clear hb_ hB_ hs_ hgb345)
    | ((with_reducible refine gate_d (N := 9) rfl ?_); obtain ⟨gb346, hgb346⟩ : ∃ g_, w351.heap.size = g_ := ⟨_, rfl⟩; refine ag_range a0 gb346 hgb346 und_txt rfl _ rfl rfl ?_; intro w352 hb_ hB_ hs_; have GEb346 : Hid (w.heap.size ≤ gb346) := hid (by have := HL.out.size; omega); have NBb345_b346 : Hid (gb345 ≠ gb346) := hid (by have := BKb345.out.lt; omega); have NBb346_b345 : Hid (gb346 ≠ gb345) := hid (by have := NBb345_b346.out; omega); replace BKb345 := hid (BKb345.out.below hb_ (by rw [← hgb346]; exact BKb345.out.lt)); replace HL := hid (HL.out.trans (hb_.mono GEb346.out)); have BKb346 := hid hB_; clear hb_ hB_ hs_ hgb346))
  (try simp only [Act.put, List.setIfInBounds_toArray, List.set_cons_zero, List.set_cons_succ])
  go_loopg [5] k (fun kq v5 w' => ∃ (x5_0 : Int) (yb345_0_0 : List Int) (yb346_0_0 : Nat), v5 = .int .i64 x5_0 ∧ Hid (i_square_Parse.l0 kq a0 x5_0 yb345_0_0 yb346_0_0 = some (r1, r2)) ∧ Hid (kq ≤ k) ∧ Hid (yb345_0_0.length = 2) ∧ Hid (Blk w' gb345 30 (av (Value.int .i64) yb345_0_0)) ∧ Hid (Itr w' gb346 a0 yb346_0_0) ∧ Hid (Below w.heap.size w w'))
  case atStart => exact ⟨(0 : Int), (List.replicate 2 (0 : Int)), (0 : Nat), (by first | rfl | (simp; done) | (simp [*]; done)), H', (hid (by first | omega | (omega))), (hid (by first | rfl | (simp only [List.length_set, List.length_replicate, zL_len, List.length_cons, List.length_nil]; done) | (simp [zL_len]; done))), (hid (by exact BKb345.out)), (hid (by exact BKb346.out)), HL⟩
  case round =>
    clear H'
    clear HL BKb345 BKb346
    obtain ⟨x5_0, yb345_0_0, yb346_0_0, rfl, HA, HK353, LN_yb345_0_0, BKb345, BKb346, HL⟩ := hrel
    cases gk with
    | zero => exact absurd HA.out (by simp [i_square_Parse.l0])
    | succ k354 =>
      have H := HA.out
      clear HA
      simp only [i_square_Parse.l0] at H
      by_cases c355 : yb346_0_0 < a0.size
      · rw [if_pos c355] at H
        have hc355 := hid c355
        clear c355
        by_cases c356 : x5_0 = 0
        · rw [if_pos c356] at H
          have c356b0 : (x5_0 == 0) = true := beq_iff_eq.mpr c356
          have c356b1 : (x5_0 != 0) = false := bne_eq_false_iff_eq.mpr c356
          have hc356 := hid c356
          clear c356
          by_cases c357 : ((Utf8.decode a0 yb346_0_0).1 : Int) ≥ 97
          · rw [if_pos c357] at H
            have c357b0 : decide (97 ≤ ((Utf8.decode a0 yb346_0_0).1 : Int)) = true := decide_eq_true c357
            have c357b1 : decide (97 ≤ (Utf8.decode a0 yb346_0_0).1) = true := decide_eq_true (by omega)
            have hc357 := hid c357
            clear c357
            by_cases c358 : ((Utf8.decode a0 yb346_0_0).1 : Int) ≤ 104
            · rw [if_pos c358] at H
              have c358b0 : decide (((Utf8.decode a0 yb346_0_0).1 : Int) ≤ 104) = true := decide_eq_true c358
              have c358b1 : decide ((Utf8.decode a0 yb346_0_0).1 ≤ 104) = true := decide_eq_true (by omega)
              have hc358 := hid c358
              clear c358
              have H' := hid H
              clear H
              go_wp2_with (first
                | ((with_reducible refine gate_d (N := 10) rfl ?_); refine ag_next_y a0 gb346 yb346_0_0 BKb346.out hc355.out rfl _ rfl rfl ?_; intro w359 ho_ hB_; replace BKb345 := hid (BKb345.out.off ho_ NBb345_b346.out); replace HL := hid (ho_.below HL.out GEb346.out); replace BKb346 := hid hB_; clear ho_ hB_)
                | ((with_reducible refine gate_d (N := 27) rfl ?_); refine ag_fix (.pointer (some ⟨gb345, 0, none⟩)) (ex_at 30 (.pointer (some ⟨gb345, 0, none⟩)) (.int .i64 0) (.pointer (some ⟨gb345, 0, none⟩)) (fun w_ => (run_atv 3 uT30 sT3.size gb345 0 0 (by omega) (by omega) w_).trans rfl) _ _ rfl rfl rfl) rfl ?_)
                | ((with_reducible refine gate_s (t := 3) (p := 27) rfl ?_); refine ag_set sT3 gb345 (0) (.int .i64 (wrap64 (wrap32 (((Utf8.decode a0 yb346_0_0).1 : Int) - 97)))) (av (Value.int .i64) yb345_0_0) (av (Value.int .i64) (yb345_0_0.set 0 (wrap64 (wrap32 (((Utf8.decode a0 yb346_0_0).1 : Int) - 97))))) BKb345.out (by rw [show (av (Value.int .i64) yb345_0_0) = av (Value.int .i64) yb345_0_0 from rfl, av_size]; exact (by have h_ : yb345_0_0.length = 2 := (by first | rfl | (simp only [List.length_set, List.length_replicate, zL_len, List.length_cons, List.length_nil, LN_yb345_0_0.out]; done) | (simp [zL_len, LN_yb345_0_0.out]; done)); omega)) rfl rfl (av_set _ _) rfl _ _ rfl rfl rfl ?_; intro w360 ho_ hB_; replace BKb346 := hid (BKb346.out.off ho_ NBb346_b345.out); replace HL := hid (ho_.below HL.out GEb345.out); replace BKb345 := hid hB_; clear ho_ hB_))
              (try simp only [Act.put, List.setIfInBounds_toArray, List.set_cons_zero, List.set_cons_succ])
              go_roundg k354
              case measure => have := HK353.out; omega
              case rel => exact ⟨wrap64 (x5_0 + 1), yb345_0_0.set 0 (wrap64 (wrap32 (((Utf8.decode a0 yb346_0_0).1 : Int) - 97))), (yb346_0_0 + (Utf8.decode a0 yb346_0_0).2), (by first | rfl | (simp; done) | (simp [*]; done)), H', (hid (by first | omega | (have := HK353.out; omega))), (hid (by first | rfl | (simp only [List.length_set, List.length_replicate, zL_len, List.length_cons, List.length_nil, LN_yb345_0_0.out]; done) | (simp [zL_len, LN_yb345_0_0.out]; done))), (hid (by exact BKb345.out)), (hid (by exact BKb346.out)), HL⟩
            · rw [if_neg c358] at H
              have c358b0 : decide (((Utf8.decode a0 yb346_0_0).1 : Int) ≤ 104) = false := decide_eq_false c358
              have c358b1 : decide ((Utf8.decode a0 yb346_0_0).1 ≤ 104) = false := decide_eq_false (by omega)
              have hc358 := hid c358
              clear c358
              by_cases c361 : x5_0 = 1
              · rw [if_pos c361] at H
                exfalso
                clear H
                have := hc356.out; omega
              · rw [if_neg c361] at H
                have c361b0 : (x5_0 == 1) = false := beq_eq_false_iff_ne.mpr c361
                have c361b1 : (x5_0 != 1) = true := bne_iff_ne.mpr c361
                have hc361 := hid c361
                clear c361
                simp only [Option.some.injEq, Prod.mk.injEq] at H
                obtain ⟨rfl, rfl⟩ := H
                go_wp2_with (first
                  | ((with_reducible refine gate_d (N := 10) rfl ?_); refine ag_next_y a0 gb346 yb346_0_0 BKb346.out hc355.out rfl _ rfl rfl ?_; intro w362 ho_ hB_; replace BKb345 := hid (BKb345.out.off ho_ NBb345_b346.out); replace HL := hid (ho_.below HL.out GEb346.out); replace BKb346 := hid hB_; clear ho_ hB_))
                (try simp only [Act.put, List.setIfInBounds_toArray, List.set_cons_zero, List.set_cons_succ])
                go_ret2
                exact ⟨by first | rfl | (simp; done) | (simp [*]; done), HL.out⟩
          · rw [if_neg c357] at H
            have c357b0 : decide (97 ≤ ((Utf8.decode a0 yb346_0_0).1 : Int)) = false := decide_eq_false c357
            have c357b1 : decide (97 ≤ (Utf8.decode a0 yb346_0_0).1) = false := decide_eq_false (by omega)
            have hc357 := hid c357
            clear c357
            by_cases c363 : x5_0 = 1
            · rw [if_pos c363] at H
              exfalso
              clear H
              have := hc356.out; omega
            · rw [if_neg c363] at H
              have c363b0 : (x5_0 == 1) = false := beq_eq_false_iff_ne.mpr c363
              have c363b1 : (x5_0 != 1) = true := bne_iff_ne.mpr c363
              have hc363 := hid c363
              clear c363
              simp only [Option.some.injEq, Prod.mk.injEq] at H
              obtain ⟨rfl, rfl⟩ := H
              go_wp2_with (first
                | ((with_reducible refine gate_d (N := 10) rfl ?_); refine ag_next_y a0 gb346 yb346_0_0 BKb346.out hc355.out rfl _ rfl rfl ?_; intro w364 ho_ hB_; replace BKb345 := hid (BKb345.out.off ho_ NBb345_b346.out); replace HL := hid (ho_.below HL.out GEb346.out); replace BKb346 := hid hB_; clear ho_ hB_))
              (try simp only [Act.put, List.setIfInBounds_toArray, List.set_cons_zero, List.set_cons_succ])
              go_ret2
              exact ⟨by first | rfl | (simp; done) | (simp [*]; done), HL.out⟩
        · rw [if_neg c356] at H
          have c356b0 : (x5_0 == 0) = false := beq_eq_false_iff_ne.mpr c356
          have c356b1 : (x5_0 != 0) = true := bne_iff_ne.mpr c356
          have hc356 := hid c356
          clear c356
          by_cases c365 : x5_0 = 1
          · rw [if_pos c365] at H
            have c365b0 : (x5_0 == 1) = true := beq_iff_eq.mpr c365
            have c365b1 : (x5_0 != 1) = false := bne_eq_false_iff_eq.mpr c365
            have hc365 := hid c365
            clear c365
            by_cases c366 : ((Utf8.decode a0 yb346_0_0).1 : Int) ≥ 49
            · rw [if_pos c366] at H
              have c366b0 : decide (49 ≤ ((Utf8.decode a0 yb346_0_0).1 : Int)) = true := decide_eq_true c366
              have c366b1 : decide (49 ≤ (Utf8.decode a0 yb346_0_0).1) = true := decide_eq_true (by omega)
              have hc366 := hid c366
              clear c366
              by_cases c367 : ((Utf8.decode a0 yb346_0_0).1 : Int) ≤ 56
              · rw [if_pos c367] at H
                have c367b0 : decide (((Utf8.decode a0 yb346_0_0).1 : Int) ≤ 56) = true := decide_eq_true c367
                have c367b1 : decide ((Utf8.decode a0 yb346_0_0).1 ≤ 56) = true := decide_eq_true (by omega)
                have hc367 := hid c367
                clear c367
                have H' := hid H
                clear H
                go_wp2_with (first
                  | ((with_reducible refine gate_d (N := 10) rfl ?_); refine ag_next_y a0 gb346 yb346_0_0 BKb346.out hc355.out rfl _ rfl rfl ?_; intro w368 ho_ hB_; replace BKb345 := hid (BKb345.out.off ho_ NBb345_b346.out); replace HL := hid (ho_.below HL.out GEb346.out); replace BKb346 := hid hB_; clear ho_ hB_)
                  | ((with_reducible refine gate_d (N := 42) rfl ?_); refine ag_fix (.pointer (some ⟨gb345, 1, none⟩)) (ex_at 30 (.pointer (some ⟨gb345, 0, none⟩)) (.int .i64 1) (.pointer (some ⟨gb345, 1, none⟩)) (fun w_ => (run_atv 3 uT30 sT3.size gb345 0 1 (by omega) (by omega) w_).trans rfl) _ _ rfl rfl rfl) rfl ?_)
                  | ((with_reducible refine gate_s (t := 3) (p := 42) rfl ?_); refine ag_set sT3 gb345 (1) (.int .i64 (wrap64 (wrap32 (((Utf8.decode a0 yb346_0_0).1 : Int) - 49)))) (av (Value.int .i64) yb345_0_0) (av (Value.int .i64) (yb345_0_0.set 1 (wrap64 (wrap32 (((Utf8.decode a0 yb346_0_0).1 : Int) - 49))))) BKb345.out (by rw [show (av (Value.int .i64) yb345_0_0) = av (Value.int .i64) yb345_0_0 from rfl, av_size]; exact (by have h_ : yb345_0_0.length = 2 := (by first | rfl | (simp only [List.length_set, List.length_replicate, zL_len, List.length_cons, List.length_nil, LN_yb345_0_0.out]; done) | (simp [zL_len, LN_yb345_0_0.out]; done)); omega)) rfl rfl (av_set _ _) rfl _ _ rfl rfl rfl ?_; intro w369 ho_ hB_; replace BKb346 := hid (BKb346.out.off ho_ NBb346_b345.out); replace HL := hid (ho_.below HL.out GEb345.out); replace BKb345 := hid hB_; clear ho_ hB_))
                (try simp only [Act.put, List.setIfInBounds_toArray, List.set_cons_zero, List.set_cons_succ])
                go_roundg k354
                case measure => have := HK353.out; omega
                case rel => exact ⟨wrap64 (x5_0 + 1), yb345_0_0.set 1 (wrap64 (wrap32 (((Utf8.decode a0 yb346_0_0).1 : Int) - 49))), (yb346_0_0 + (Utf8.decode a0 yb346_0_0).2), (by first | rfl | (simp; done) | (simp [*]; done)), H', (hid (by first | omega | (have := HK353.out; omega))), (hid (by first | rfl | (simp only [List.length_set, List.length_replicate, zL_len, List.length_cons, List.length_nil, LN_yb345_0_0.out]; done) | (simp [zL_len, LN_yb345_0_0.out]; done))), (hid (by exact BKb345.out)), (hid (by exact BKb346.out)), HL⟩
              · rw [if_neg c367] at H
                have c367b0 : decide (((Utf8.decode a0 yb346_0_0).1 : Int) ≤ 56) = false := decide_eq_false c367
                have c367b1 : decide ((Utf8.decode a0 yb346_0_0).1 ≤ 56) = false := decide_eq_false (by omega)
                have hc367 := hid c367
                clear c367
                simp only [Option.some.injEq, Prod.mk.injEq] at H
                obtain ⟨rfl, rfl⟩ := H
                go_wp2_with (first
                  | ((with_reducible refine gate_d (N := 10) rfl ?_); refine ag_next_y a0 gb346 yb346_0_0 BKb346.out hc355.out rfl _ rfl rfl ?_; intro w370 ho_ hB_; replace BKb345 := hid (BKb345.out.off ho_ NBb345_b346.out); replace HL := hid (ho_.below HL.out GEb346.out); replace BKb346 := hid hB_; clear ho_ hB_))
                (try simp only [Act.put, List.setIfInBounds_toArray, List.set_cons_zero, List.set_cons_succ])
                go_ret2
                exact ⟨by first | rfl | (simp; done) | (simp [*]; done), HL.out⟩
            · rw [if_neg c366] at H
              have c366b0 : decide (49 ≤ ((Utf8.decode a0 yb346_0_0).1 : Int)) = false := decide_eq_false c366
              have c366b1 : decide (49 ≤ (Utf8.decode a0 yb346_0_0).1) = false := decide_eq_false (by omega)
              have hc366 := hid c366
              clear c366
              simp only [Option.some.injEq, Prod.mk.injEq] at H
              obtain ⟨rfl, rfl⟩ := H
              go_wp2_with (first
                | ((with_reducible refine gate_d (N := 10) rfl ?_); refine ag_next_y a0 gb346 yb346_0_0 BKb346.out hc355.out rfl _ rfl rfl ?_; intro w371 ho_ hB_; replace BKb345 := hid (BKb345.out.off ho_ NBb345_b346.out); replace HL := hid (ho_.below HL.out GEb346.out); replace BKb346 := hid hB_; clear ho_ hB_))
              (try simp only [Act.put, List.setIfInBounds_toArray, List.set_cons_zero, List.set_cons_succ])
              go_ret2
              exact ⟨by first | rfl | (simp; done) | (simp [*]; done), HL.out⟩
          · rw [if_neg c365] at H
            have c365b0 : (x5_0 == 1) = false := beq_eq_false_iff_ne.mpr c365
            have c365b1 : (x5_0 != 1) = true := bne_iff_ne.mpr c365
            have hc365 := hid c365
            clear c365
            simp only [Option.some.injEq, Prod.mk.injEq] at H
            obtain ⟨rfl, rfl⟩ := H
            go_wp2_with (first
              | ((with_reducible refine gate_d (N := 10) rfl ?_); refine ag_next_y a0 gb346 yb346_0_0 BKb346.out hc355.out rfl _ rfl rfl ?_; intro w372 ho_ hB_; replace BKb345 := hid (BKb345.out.off ho_ NBb345_b346.out); replace HL := hid (ho_.below HL.out GEb346.out); replace BKb346 := hid hB_; clear ho_ hB_))
            (try simp only [Act.put, List.setIfInBounds_toArray, List.set_cons_zero, List.set_cons_succ])
            go_ret2
            exact ⟨by first | rfl | (simp; done) | (simp [*]; done), HL.out⟩
      · rw [if_neg c355] at H
        have hc355 := hid c355
        clear c355
        by_cases c373 : x5_0 = 2
        · rw [if_pos c373] at H
          have c373b0 : (x5_0 == 2) = true := beq_iff_eq.mpr c373
          have c373b1 : (x5_0 != 2) = false := bne_eq_false_iff_eq.mpr c373
          have hc373 := hid c373
          clear c373
          replace H := Option.bind_eq_some_iff.mp H
          obtain ⟨⟨t349, t350⟩, A374_, H⟩ := H
          replace H : (some (t349, t350)) = some (r1, r2) := H
          have A374 := hid A374_
          clear A374_
          simp only [Option.some.injEq, Prod.mk.injEq] at H
          obtain ⟨rfl, rfl⟩ := H
          have k375 := True.intro
          go_wp2_with (first
            | ((with_reducible refine gate_d (N := 10) rfl ?_); refine ag_next_n a0 gb346 yb346_0_0 BKb346.out hc355.out rfl _ rfl rfl ?_)
            | ((with_reducible refine gate_d (N := 47) rfl ?_); refine ag_fix (.pointer (some ⟨gb345, 0, none⟩)) (ex_at 30 (.pointer (some ⟨gb345, 0, none⟩)) (.int .i64 0) (.pointer (some ⟨gb345, 0, none⟩)) (fun w_ => (run_atv 3 uT30 sT3.size gb345 0 0 (by omega) (by omega) w_).trans rfl) _ _ rfl rfl rfl) rfl ?_)
            | ((with_reducible refine gate_d (N := 48) rfl ?_); refine ag_fix (.int .i64 (nt yb345_0_0 0 0)) (ex_get sT3 gb345 (0) (.int .i64 (nt yb345_0_0 0 0)) ((av (Value.int .i64) yb345_0_0)) BKb345.out (av_get 0 (by have h_ : yb345_0_0.length = 2 := (by first | rfl | (simp only [List.length_set, List.length_replicate, zL_len, List.length_cons, List.length_nil, LN_yb345_0_0.out]; done) | (simp [zL_len, LN_yb345_0_0.out]; done)); omega)) _ rfl rfl) rfl ?_)
            | ((with_reducible refine gate_d (N := 49) rfl ?_); refine ag_fix (.pointer (some ⟨gb345, 1, none⟩)) (ex_at 30 (.pointer (some ⟨gb345, 0, none⟩)) (.int .i64 1) (.pointer (some ⟨gb345, 1, none⟩)) (fun w_ => (run_atv 3 uT30 sT3.size gb345 0 1 (by omega) (by omega) w_).trans rfl) _ _ rfl rfl rfl) rfl ?_)
            | ((with_reducible refine gate_d (N := 50) rfl ?_); refine ag_fix (.int .i64 (nt yb345_0_0 1 0)) (ex_get sT3 gb345 (1) (.int .i64 (nt yb345_0_0 1 0)) ((av (Value.int .i64) yb345_0_0)) BKb345.out (av_get 0 (by have h_ : yb345_0_0.length = 2 := (by first | rfl | (simp only [List.length_set, List.length_replicate, zL_len, List.length_cons, List.length_nil, LN_yb345_0_0.out]; done) | (simp [zL_len, LN_yb345_0_0.out]; done)); omega)) _ rfl rfl) rfl ?_)
            | (go_at_call 46; clear k375; refine (i_square_At.calls (nt yb345_0_0 0 0) (nt yb345_0_0 1 0) t349 t350 _ A374.out).mono ?_; rintro e_ w' ⟨rfl, rfl⟩))
          (try simp only [Act.put, List.setIfInBounds_toArray, List.set_cons_zero, List.set_cons_succ])
          go_ret2
          exact ⟨by first | rfl | (simp; done) | (simp [*]; done), HL.out⟩
        · rw [if_neg c373] at H
          have c373b0 : (x5_0 == 2) = false := beq_eq_false_iff_ne.mpr c373
          have c373b1 : (x5_0 != 2) = true := bne_iff_ne.mpr c373
          have hc373 := hid c373
          clear c373
          simp only [Option.some.injEq, Prod.mk.injEq] at H
          obtain ⟨rfl, rfl⟩ := H
          go_wp2_with (first
            | ((with_reducible refine gate_d (N := 10) rfl ?_); refine ag_next_n a0 gb346 yb346_0_0 BKb346.out hc355.out rfl _ rfl rfl ?_))
          (try simp only [Act.put, List.setIfInBounds_toArray, List.set_cons_zero, List.set_cons_succ])
          go_ret2
          exact ⟨by first | rfl | (simp; done) | (simp [*]; done), HL.out⟩
/-! i_lex_Square: function 19 -/
def i_lex_Square.l0 : Nat → ByteArray → Int → ByteArray → Nat → Option (Int × Int × Int)
  | 0, _, _, _, _ => none
  | k + 1, a0, a1, x5_0, yb378_0_0 => if yb378_0_0 < (a0.extract (a1 : Int).toNat a0.size).size then (if (yb378_0_0 : Int) = 0 then (if ((Utf8.decode (a0.extract (a1 : Int).toNat a0.size) yb378_0_0).1 : Int) ≥ 97 then (if ((Utf8.decode (a0.extract (a1 : Int).toNat a0.size) yb378_0_0).1 : Int) ≤ 104 then (i_lex_Square.l0 k a0 a1 (Utf8.encode ((Utf8.decode (a0.extract (a1 : Int).toNat a0.size) yb378_0_0).1 : Int)) (yb378_0_0 + (Utf8.decode (a0.extract (a1 : Int).toNat a0.size) yb378_0_0).2)) else (if x5_0.size + (Utf8.encode ((Utf8.decode (a0.extract (a1 : Int).toNat a0.size) yb378_0_0).1 : Int)).size ≤ 9223372036854775807 then ((i_square_Parse.f k (x5_0 ++ (Utf8.encode ((Utf8.decode (a0.extract (a1 : Int).toNat a0.size) yb378_0_0).1 : Int)))).bind fun bt385 => (if bt385.2 = true then (some (wrap64 ((wrap64 (a1 + (yb378_0_0 : Int))) + 1), bt385.1, 0)) else (some (wrap64 (a1 + (yb378_0_0 : Int)), 0, 2)))) else (none))) else (if x5_0.size + (Utf8.encode ((Utf8.decode (a0.extract (a1 : Int).toNat a0.size) yb378_0_0).1 : Int)).size ≤ 9223372036854775807 then ((i_square_Parse.f k (x5_0 ++ (Utf8.encode ((Utf8.decode (a0.extract (a1 : Int).toNat a0.size) yb378_0_0).1 : Int)))).bind fun bt387 => (if bt387.2 = true then (some (wrap64 ((wrap64 (a1 + (yb378_0_0 : Int))) + 1), bt387.1, 0)) else (some (wrap64 (a1 + (yb378_0_0 : Int)), 0, 2)))) else (none))) else (if x5_0.size + (Utf8.encode ((Utf8.decode (a0.extract (a1 : Int).toNat a0.size) yb378_0_0).1 : Int)).size ≤ 9223372036854775807 then ((i_square_Parse.f k (x5_0 ++ (Utf8.encode ((Utf8.decode (a0.extract (a1 : Int).toNat a0.size) yb378_0_0).1 : Int)))).bind fun bt389 => (if bt389.2 = true then (some (wrap64 ((wrap64 (a1 + (yb378_0_0 : Int))) + 1), bt389.1, 0)) else (some (wrap64 (a1 + (yb378_0_0 : Int)), 0, 2)))) else (none))) else (some ((a0.size : Int), 0, 1))
def i_lex_Square.f (k : Nat) (a0 : ByteArray) (a1 : Int) : Option (Int × Int × Int) := (i_lex_there.f a0 a1).bind fun t377 => (if t377 = true then (if 0 ≤ a1 then (if a1 ≤ (a0.size : Int) then (i_lex_Square.l0 k a0 a1 (⟨#[]⟩ : ByteArray) 0) else (none)) else (none)) else ((i_lex_wrong.f).bind fun bt391 => (some (bt391.1, bt391.2.1, bt391.2.2))))
set_option maxHeartbeats 40000000 in
set_option maxRecDepth 100000 in
theorem i_lex_Square.calls (k : Nat) (a0 : ByteArray) (a1 : Int) (r1 : Int) (r2 : Int) (r3 : Int) (w : World) (h : i_lex_Square.f k a0 a1 = some (r1, r2, r3)) :
    Calls Try.prog 19 #[.string a0, .int .i64 a1] w fun e w' => e = .returned (.agg #[.int .i64 r1, .int .i64 r2, .int .i64 r3]) ∧ Below w.heap.size w w' := by
  have HL := hid (Below.refl w.heap.size w)
  have H : ((i_lex_there.f a0 a1).bind fun t377 => (if t377 = true then (if 0 ≤ a1 then (if a1 ≤ (a0.size : Int) then (i_lex_Square.l0 k a0 a1 (⟨#[]⟩ : ByteArray) 0) else (none)) else (none)) else ((i_lex_wrong.f).bind fun bt391 => (some (bt391.1, bt391.2.1, bt391.2.2))))) = some (r1, r2, r3) := h
  clear h
  replace H := Option.bind_eq_some_iff.mp H
  obtain ⟨t377, A394_, H⟩ := H
  replace H : (if t377 = true then (if 0 ≤ a1 then (if a1 ≤ (a0.size : Int) then (i_lex_Square.l0 k a0 a1 (⟨#[]⟩ : ByteArray) 0) else (none)) else (none)) else ((i_lex_wrong.f).bind fun bt391 => (some (bt391.1, bt391.2.1, bt391.2.2)))) = some (r1, r2, r3) := H
  have A394 := hid A394_
  clear A394_
  cases t377 with
  | true =>
    rw [if_pos rfl] at H
    by_cases c396 : 0 ≤ a1
    · rw [if_pos c396] at H
      have c396b0 : decide (0 ≤ a1) = true := decide_eq_true c396
      have hc396 := hid c396
      clear c396
      by_cases c397 : a1 ≤ (a0.size : Int)
      · rw [if_pos c397] at H
        have c397b0 : decide (a1 ≤ (a0.size : Int)) = true := decide_eq_true c397
        have hc397 := hid c397
        clear c397
        have H' := hid H
        clear H
        go_enter Try.func19, Try.ntmps19
        have k399 := True.intro
        go_wp2_with (first
          | ((with_reducible refine gate_d (N := 4) rfl ?_); obtain ⟨gb376, hgb376⟩ : ∃ g_, w.heap.size = g_ := ⟨_, rfl⟩; refine ag_alloc aT26 gb376 hgb376 rfl rfl ?_; intro w398 hb_ hB_ hs_; have GEb376 : Hid (w.heap.size ≤ gb376) := hid (by have := HL.out.size; omega); replace HL := hid (HL.out.trans (hb_.mono GEb376.out)); have BKb376 := hid hB_; clear hb_ hB_ hs_ hgb376)
          | (go_at_call 27; clear k399; refine (i_lex_there.calls a0 a1 true _ A394.out).mono ?_; rintro e_ w' ⟨rfl, rfl⟩)
          | ((with_reducible refine gate_d (N := 17) rfl ?_); refine ag_fix (.string (a0.extract (a1 : Int).toNat a0.size)) (ex_cut_l 9 und_txt a0 a1  hc396.out hc397.out _ _ rfl rfl rfl) rfl ?_)
          | ((with_reducible refine gate_d (N := 18) rfl ?_); obtain ⟨gb378, hgb378⟩ : ∃ g_, w398.heap.size = g_ := ⟨_, rfl⟩; refine ag_range (a0.extract (a1 : Int).toNat a0.size) gb378 hgb378 und_txt rfl _ rfl rfl ?_; intro w400 hb_ hB_ hs_; have GEb378 : Hid (w.heap.size ≤ gb378) := hid (by have := HL.out.size; omega); have NBb376_b378 : Hid (gb376 ≠ gb378) := hid (by have := BKb376.out.lt; omega); have NBb378_b376 : Hid (gb378 ≠ gb376) := hid (by have := NBb376_b378.out; omega); replace BKb376 := hid (BKb376.out.below hb_ (by rw [← hgb378]; exact BKb376.out.lt)); replace HL := hid (HL.out.trans (hb_.mono GEb378.out)); have BKb378 := hid hB_; clear hb_ hB_ hs_ hgb378))
        (try simp only [Act.put, List.setIfInBounds_toArray, List.set_cons_zero, List.set_cons_succ])
        go_loopg [5] k (fun kq v5 w' => ∃ (x5_0 : ByteArray) (yb378_0_0 : Nat), v5 = .string x5_0 ∧ Hid (i_lex_Square.l0 kq a0 a1 x5_0 yb378_0_0 = some (r1, r2, r3)) ∧ Hid (kq ≤ k) ∧ Hid (Blk w' gb376 26 #[.int .i64 0, .int .i64 0, .int .i64 0]) ∧ Hid (Itr w' gb378 (a0.extract (a1 : Int).toNat a0.size) yb378_0_0) ∧ Hid (Below w.heap.size w w'))
        case atStart => exact ⟨(⟨#[]⟩ : ByteArray), (0 : Nat), (by first | rfl | (simp; done) | (simp [*]; done)), H', (hid (by first | omega | (omega))), (hid (by exact BKb376.out)), (hid (by exact BKb378.out)), HL⟩
        case round =>
          clear H'
          clear HL BKb376 BKb378
          obtain ⟨x5_0, yb378_0_0, rfl, HA, HK401, BKb376, BKb378, HL⟩ := hrel
          cases gk with
          | zero => exact absurd HA.out (by simp [i_lex_Square.l0])
          | succ k402 =>
            have H := HA.out
            clear HA
            simp only [i_lex_Square.l0] at H
            by_cases c403 : yb378_0_0 < (a0.extract (a1 : Int).toNat a0.size).size
            · rw [if_pos c403] at H
              have c403b0 : decide (yb378_0_0 < (a0.extract (a1 : Int).toNat a0.size).size) = true := decide_eq_true c403
              have hc403 := hid c403
              clear c403
              by_cases c404 : (yb378_0_0 : Int) = 0
              · rw [if_pos c404] at H
                have c404b0 : ((yb378_0_0 : Int) == 0) = true := beq_iff_eq.mpr c404
                have c404b1 : ((yb378_0_0 : Int) != 0) = false := bne_eq_false_iff_eq.mpr c404
                have c404b2 : (yb378_0_0 == 0) = true := by first | simpa using c404 | (simp at c404 ⊢; omega)
                have c404b3 : (yb378_0_0 != 0) = false := by first | simpa using c404 | (simp at c404 ⊢; omega)
                have hc404 := hid c404
                clear c404
                by_cases c405 : ((Utf8.decode (a0.extract (a1 : Int).toNat a0.size) yb378_0_0).1 : Int) ≥ 97
                · rw [if_pos c405] at H
                  have c405b0 : decide (97 ≤ ((Utf8.decode (a0.extract (a1 : Int).toNat a0.size) yb378_0_0).1 : Int)) = true := decide_eq_true c405
                  have c405b1 : decide (97 ≤ (Utf8.decode (a0.extract (a1 : Int).toNat a0.size) yb378_0_0).1) = true := decide_eq_true (by omega)
                  have hc405 := hid c405
                  clear c405
                  by_cases c406 : ((Utf8.decode (a0.extract (a1 : Int).toNat a0.size) yb378_0_0).1 : Int) ≤ 104
                  · rw [if_pos c406] at H
                    have c406b0 : decide (((Utf8.decode (a0.extract (a1 : Int).toNat a0.size) yb378_0_0).1 : Int) ≤ 104) = true := decide_eq_true c406
                    have c406b1 : decide ((Utf8.decode (a0.extract (a1 : Int).toNat a0.size) yb378_0_0).1 ≤ 104) = true := decide_eq_true (by omega)
                    have hc406 := hid c406
                    clear c406
                    have H' := hid H
                    clear H
                    go_wp2_with (first
                      | ((with_reducible refine gate_d (N := 19) rfl ?_); refine ag_next_y (a0.extract (a1 : Int).toNat a0.size) gb378 yb378_0_0 BKb378.out hc403.out rfl _ rfl rfl ?_; intro w407 ho_ hB_; replace BKb376 := hid (BKb376.out.off ho_ NBb376_b378.out); replace HL := hid (ho_.below HL.out GEb378.out); replace BKb378 := hid hB_; clear ho_ hB_))
                    (try simp only [Act.put, List.setIfInBounds_toArray, List.set_cons_zero, List.set_cons_succ])
                    go_roundg k402
                    case measure => have := HK401.out; omega
                    case rel => exact ⟨Utf8.encode ((Utf8.decode (a0.extract (a1 : Int).toNat a0.size) yb378_0_0).1 : Int), (yb378_0_0 + (Utf8.decode (a0.extract (a1 : Int).toNat a0.size) yb378_0_0).2), (by first | rfl | (simp; done) | (simp [*]; done)), H', (hid (by first | omega | (have := HK401.out; omega))), (hid (by exact BKb376.out)), (hid (by exact BKb378.out)), HL⟩
                  · rw [if_neg c406] at H
                    have c406b0 : decide (((Utf8.decode (a0.extract (a1 : Int).toNat a0.size) yb378_0_0).1 : Int) ≤ 104) = false := decide_eq_false c406
                    have c406b1 : decide ((Utf8.decode (a0.extract (a1 : Int).toNat a0.size) yb378_0_0).1 ≤ 104) = false := decide_eq_false (by omega)
                    have hc406 := hid c406
                    clear c406
                    by_cases c408 : x5_0.size + (Utf8.encode ((Utf8.decode (a0.extract (a1 : Int).toNat a0.size) yb378_0_0).1 : Int)).size ≤ 9223372036854775807
                    · rw [if_pos c408] at H
                      have hc408 := hid c408
                      clear c408
                      replace H := Option.bind_eq_some_iff.mp H
                      obtain ⟨⟨t385, t386⟩, A409_, H⟩ := H
                      replace H : (if t386 = true then (some (wrap64 ((wrap64 (a1 + (yb378_0_0 : Int))) + 1), t385, 0)) else (some (wrap64 (a1 + (yb378_0_0 : Int)), 0, 2))) = some (r1, r2, r3) := H
                      have A409 := hid A409_
                      clear A409_
                      cases t386 with
                      | true =>
                        rw [if_pos rfl] at H
                        simp only [Option.some.injEq, Prod.mk.injEq] at H
                        obtain ⟨rfl, rfl, rfl⟩ := H
                        have k412 := True.intro
                        go_wp2_with (first
                          | ((with_reducible refine gate_d (N := 19) rfl ?_); refine ag_next_y (a0.extract (a1 : Int).toNat a0.size) gb378 yb378_0_0 BKb378.out hc403.out rfl _ rfl rfl ?_; intro w411 ho_ hB_; replace BKb376 := hid (BKb376.out.off ho_ NBb376_b378.out); replace HL := hid (ho_.below HL.out GEb378.out); replace BKb378 := hid hB_; clear ho_ hB_)
                          | ((with_reducible refine gate_d (N := 39) rfl ?_); refine ag_fix (.string (x5_0 ++ (Utf8.encode ((Utf8.decode (a0.extract (a1 : Int).toNat a0.size) yb378_0_0).1 : Int)))) (ex_cat 9 x5_0 (Utf8.encode ((Utf8.decode (a0.extract (a1 : Int).toNat a0.size) yb378_0_0).1 : Int)) hc408.out _ _ _ rfl rfl rfl) rfl ?_)
                          | (go_at_call 34; clear k412; refine (i_square_Parse.calls k402 (x5_0 ++ (Utf8.encode ((Utf8.decode (a0.extract (a1 : Int).toNat a0.size) yb378_0_0).1 : Int))) t385 true _ A409.out).mono ?_; rintro e_ w413 ⟨rfl, hb_⟩; replace BKb376 := hid (BKb376.out.below hb_ BKb376.out.lt); replace BKb378 := hid (BKb378.out.below hb_ BKb378.out.lt); replace HL := hid (HL.out.trans (hb_.mono HL.out.size)); clear hb_)
                          | ((with_reducible refine gate_d (N := 54) rfl ?_); refine ag_build (.agg #[.int .i64 (wrap64 ((wrap64 (a1 + (yb378_0_0 : Int))) + 1)), .int .i64 t385, .int .i64 0]) _ rfl rfl ?_ ?_; (intro ww_; simp only [List.map_toArray, List.map_cons, List.map_nil]; kernel_rfl))
                          | ((with_reducible refine gate_s (t := 26) (p := 4) rfl ?_); refine ag_store aT26 gb376 0 #[.int .i64 0, .int .i64 0, .int .i64 0] #[.int .i64 (wrap64 ((wrap64 (a1 + (yb378_0_0 : Int))) + 1)), .int .i64 t385, .int .i64 0] #[.int .i64 (wrap64 ((wrap64 (a1 + (yb378_0_0 : Int))) + 1)), .int .i64 t385, .int .i64 0] BKb376.out rfl (by simp) (by intro v_ hv_; simp at hv_; rcases hv_ with rfl | rfl | rfl <;> first | rfl) rfl rfl _ _ rfl rfl rfl ?_; intro w414 ho_ hB_; replace BKb378 := hid (BKb378.out.off ho_ NBb378_b376.out); replace HL := hid (ho_.below HL.out GEb376.out); replace BKb376 := hid hB_; clear ho_ hB_))
                        (try simp only [Act.put, List.setIfInBounds_toArray, List.set_cons_zero, List.set_cons_succ])
                        refine bodyPost_ret (v := .agg #[.int .i64 (wrap64 ((wrap64 (a1 + (yb378_0_0 : Int))) + 1)), .int .i64 t385, .int .i64 0]) (res_c aT26 rfl _ gb376 #[.int .i64 (wrap64 ((wrap64 (a1 + (yb378_0_0 : Int))) + 1)), .int .i64 t385, .int .i64 0] BKb376.out rfl rfl) rfl ?_
                        exact ⟨by first | rfl | (simp; done) | (simp [*]; done), HL.out⟩
                      | false =>
                        rw [if_neg (show ¬ (false = true) by decide)] at H
                        simp only [Option.some.injEq, Prod.mk.injEq] at H
                        obtain ⟨rfl, rfl, rfl⟩ := H
                        have k416 := True.intro
                        go_wp2_with (first
                          | ((with_reducible refine gate_d (N := 19) rfl ?_); refine ag_next_y (a0.extract (a1 : Int).toNat a0.size) gb378 yb378_0_0 BKb378.out hc403.out rfl _ rfl rfl ?_; intro w415 ho_ hB_; replace BKb376 := hid (BKb376.out.off ho_ NBb376_b378.out); replace HL := hid (ho_.below HL.out GEb378.out); replace BKb378 := hid hB_; clear ho_ hB_)
                          | ((with_reducible refine gate_d (N := 39) rfl ?_); refine ag_fix (.string (x5_0 ++ (Utf8.encode ((Utf8.decode (a0.extract (a1 : Int).toNat a0.size) yb378_0_0).1 : Int)))) (ex_cat 9 x5_0 (Utf8.encode ((Utf8.decode (a0.extract (a1 : Int).toNat a0.size) yb378_0_0).1 : Int)) hc408.out _ _ _ rfl rfl rfl) rfl ?_)
                          | (go_at_call 34; clear k416; refine (i_square_Parse.calls k402 (x5_0 ++ (Utf8.encode ((Utf8.decode (a0.extract (a1 : Int).toNat a0.size) yb378_0_0).1 : Int))) t385 false _ A409.out).mono ?_; rintro e_ w417 ⟨rfl, hb_⟩; replace BKb376 := hid (BKb376.out.below hb_ BKb376.out.lt); replace BKb378 := hid (BKb378.out.below hb_ BKb378.out.lt); replace HL := hid (HL.out.trans (hb_.mono HL.out.size)); clear hb_)
                          | ((with_reducible refine gate_d (N := 48) rfl ?_); refine ag_build (.agg #[.int .i64 (wrap64 (a1 + (yb378_0_0 : Int))), .int .i64 0, .int .i64 2]) _ rfl rfl ?_ ?_; (intro ww_; simp only [List.map_toArray, List.map_cons, List.map_nil]; kernel_rfl))
                          | ((with_reducible refine gate_s (t := 26) (p := 4) rfl ?_); refine ag_store aT26 gb376 0 #[.int .i64 0, .int .i64 0, .int .i64 0] #[.int .i64 (wrap64 (a1 + (yb378_0_0 : Int))), .int .i64 0, .int .i64 2] #[.int .i64 (wrap64 (a1 + (yb378_0_0 : Int))), .int .i64 0, .int .i64 2] BKb376.out rfl (by simp) (by intro v_ hv_; simp at hv_; rcases hv_ with rfl | rfl | rfl <;> first | rfl) rfl rfl _ _ rfl rfl rfl ?_; intro w418 ho_ hB_; replace BKb378 := hid (BKb378.out.off ho_ NBb378_b376.out); replace HL := hid (ho_.below HL.out GEb376.out); replace BKb376 := hid hB_; clear ho_ hB_))
                        (try simp only [Act.put, List.setIfInBounds_toArray, List.set_cons_zero, List.set_cons_succ])
                        refine bodyPost_ret (v := .agg #[.int .i64 (wrap64 (a1 + (yb378_0_0 : Int))), .int .i64 0, .int .i64 2]) (res_c aT26 rfl _ gb376 #[.int .i64 (wrap64 (a1 + (yb378_0_0 : Int))), .int .i64 0, .int .i64 2] BKb376.out rfl rfl) rfl ?_
                        exact ⟨by first | rfl | (simp; done) | (simp [*]; done), HL.out⟩
                    · rw [if_neg c408] at H
                      exact absurd H (by simp)
                · rw [if_neg c405] at H
                  have c405b0 : decide (97 ≤ ((Utf8.decode (a0.extract (a1 : Int).toNat a0.size) yb378_0_0).1 : Int)) = false := decide_eq_false c405
                  have c405b1 : decide (97 ≤ (Utf8.decode (a0.extract (a1 : Int).toNat a0.size) yb378_0_0).1) = false := decide_eq_false (by omega)
                  have hc405 := hid c405
                  clear c405
                  by_cases c419 : x5_0.size + (Utf8.encode ((Utf8.decode (a0.extract (a1 : Int).toNat a0.size) yb378_0_0).1 : Int)).size ≤ 9223372036854775807
                  · rw [if_pos c419] at H
                    have hc419 := hid c419
                    clear c419
                    replace H := Option.bind_eq_some_iff.mp H
                    obtain ⟨⟨t387, t388⟩, A420_, H⟩ := H
                    replace H : (if t388 = true then (some (wrap64 ((wrap64 (a1 + (yb378_0_0 : Int))) + 1), t387, 0)) else (some (wrap64 (a1 + (yb378_0_0 : Int)), 0, 2))) = some (r1, r2, r3) := H
                    have A420 := hid A420_
                    clear A420_
                    cases t388 with
                    | true =>
                      rw [if_pos rfl] at H
                      simp only [Option.some.injEq, Prod.mk.injEq] at H
                      obtain ⟨rfl, rfl, rfl⟩ := H
                      have k423 := True.intro
                      go_wp2_with (first
                        | ((with_reducible refine gate_d (N := 19) rfl ?_); refine ag_next_y (a0.extract (a1 : Int).toNat a0.size) gb378 yb378_0_0 BKb378.out hc403.out rfl _ rfl rfl ?_; intro w422 ho_ hB_; replace BKb376 := hid (BKb376.out.off ho_ NBb376_b378.out); replace HL := hid (ho_.below HL.out GEb378.out); replace BKb378 := hid hB_; clear ho_ hB_)
                        | ((with_reducible refine gate_d (N := 39) rfl ?_); refine ag_fix (.string (x5_0 ++ (Utf8.encode ((Utf8.decode (a0.extract (a1 : Int).toNat a0.size) yb378_0_0).1 : Int)))) (ex_cat 9 x5_0 (Utf8.encode ((Utf8.decode (a0.extract (a1 : Int).toNat a0.size) yb378_0_0).1 : Int)) hc419.out _ _ _ rfl rfl rfl) rfl ?_)
                        | (go_at_call 34; clear k423; refine (i_square_Parse.calls k402 (x5_0 ++ (Utf8.encode ((Utf8.decode (a0.extract (a1 : Int).toNat a0.size) yb378_0_0).1 : Int))) t387 true _ A420.out).mono ?_; rintro e_ w424 ⟨rfl, hb_⟩; replace BKb376 := hid (BKb376.out.below hb_ BKb376.out.lt); replace BKb378 := hid (BKb378.out.below hb_ BKb378.out.lt); replace HL := hid (HL.out.trans (hb_.mono HL.out.size)); clear hb_)
                        | ((with_reducible refine gate_d (N := 54) rfl ?_); refine ag_build (.agg #[.int .i64 (wrap64 ((wrap64 (a1 + (yb378_0_0 : Int))) + 1)), .int .i64 t387, .int .i64 0]) _ rfl rfl ?_ ?_; (intro ww_; simp only [List.map_toArray, List.map_cons, List.map_nil]; kernel_rfl))
                        | ((with_reducible refine gate_s (t := 26) (p := 4) rfl ?_); refine ag_store aT26 gb376 0 #[.int .i64 0, .int .i64 0, .int .i64 0] #[.int .i64 (wrap64 ((wrap64 (a1 + (yb378_0_0 : Int))) + 1)), .int .i64 t387, .int .i64 0] #[.int .i64 (wrap64 ((wrap64 (a1 + (yb378_0_0 : Int))) + 1)), .int .i64 t387, .int .i64 0] BKb376.out rfl (by simp) (by intro v_ hv_; simp at hv_; rcases hv_ with rfl | rfl | rfl <;> first | rfl) rfl rfl _ _ rfl rfl rfl ?_; intro w425 ho_ hB_; replace BKb378 := hid (BKb378.out.off ho_ NBb378_b376.out); replace HL := hid (ho_.below HL.out GEb376.out); replace BKb376 := hid hB_; clear ho_ hB_))
                      (try simp only [Act.put, List.setIfInBounds_toArray, List.set_cons_zero, List.set_cons_succ])
                      refine bodyPost_ret (v := .agg #[.int .i64 (wrap64 ((wrap64 (a1 + (yb378_0_0 : Int))) + 1)), .int .i64 t387, .int .i64 0]) (res_c aT26 rfl _ gb376 #[.int .i64 (wrap64 ((wrap64 (a1 + (yb378_0_0 : Int))) + 1)), .int .i64 t387, .int .i64 0] BKb376.out rfl rfl) rfl ?_
                      exact ⟨by first | rfl | (simp; done) | (simp [*]; done), HL.out⟩
                    | false =>
                      rw [if_neg (show ¬ (false = true) by decide)] at H
                      simp only [Option.some.injEq, Prod.mk.injEq] at H
                      obtain ⟨rfl, rfl, rfl⟩ := H
                      have k427 := True.intro
                      go_wp2_with (first
                        | ((with_reducible refine gate_d (N := 19) rfl ?_); refine ag_next_y (a0.extract (a1 : Int).toNat a0.size) gb378 yb378_0_0 BKb378.out hc403.out rfl _ rfl rfl ?_; intro w426 ho_ hB_; replace BKb376 := hid (BKb376.out.off ho_ NBb376_b378.out); replace HL := hid (ho_.below HL.out GEb378.out); replace BKb378 := hid hB_; clear ho_ hB_)
                        | ((with_reducible refine gate_d (N := 39) rfl ?_); refine ag_fix (.string (x5_0 ++ (Utf8.encode ((Utf8.decode (a0.extract (a1 : Int).toNat a0.size) yb378_0_0).1 : Int)))) (ex_cat 9 x5_0 (Utf8.encode ((Utf8.decode (a0.extract (a1 : Int).toNat a0.size) yb378_0_0).1 : Int)) hc419.out _ _ _ rfl rfl rfl) rfl ?_)
                        | (go_at_call 34; clear k427; refine (i_square_Parse.calls k402 (x5_0 ++ (Utf8.encode ((Utf8.decode (a0.extract (a1 : Int).toNat a0.size) yb378_0_0).1 : Int))) t387 false _ A420.out).mono ?_; rintro e_ w428 ⟨rfl, hb_⟩; replace BKb376 := hid (BKb376.out.below hb_ BKb376.out.lt); replace BKb378 := hid (BKb378.out.below hb_ BKb378.out.lt); replace HL := hid (HL.out.trans (hb_.mono HL.out.size)); clear hb_)
                        | ((with_reducible refine gate_d (N := 48) rfl ?_); refine ag_build (.agg #[.int .i64 (wrap64 (a1 + (yb378_0_0 : Int))), .int .i64 0, .int .i64 2]) _ rfl rfl ?_ ?_; (intro ww_; simp only [List.map_toArray, List.map_cons, List.map_nil]; kernel_rfl))
                        | ((with_reducible refine gate_s (t := 26) (p := 4) rfl ?_); refine ag_store aT26 gb376 0 #[.int .i64 0, .int .i64 0, .int .i64 0] #[.int .i64 (wrap64 (a1 + (yb378_0_0 : Int))), .int .i64 0, .int .i64 2] #[.int .i64 (wrap64 (a1 + (yb378_0_0 : Int))), .int .i64 0, .int .i64 2] BKb376.out rfl (by simp) (by intro v_ hv_; simp at hv_; rcases hv_ with rfl | rfl | rfl <;> first | rfl) rfl rfl _ _ rfl rfl rfl ?_; intro w429 ho_ hB_; replace BKb378 := hid (BKb378.out.off ho_ NBb378_b376.out); replace HL := hid (ho_.below HL.out GEb376.out); replace BKb376 := hid hB_; clear ho_ hB_))
                      (try simp only [Act.put, List.setIfInBounds_toArray, List.set_cons_zero, List.set_cons_succ])
                      refine bodyPost_ret (v := .agg #[.int .i64 (wrap64 (a1 + (yb378_0_0 : Int))), .int .i64 0, .int .i64 2]) (res_c aT26 rfl _ gb376 #[.int .i64 (wrap64 (a1 + (yb378_0_0 : Int))), .int .i64 0, .int .i64 2] BKb376.out rfl rfl) rfl ?_
                      exact ⟨by first | rfl | (simp; done) | (simp [*]; done), HL.out⟩
                  · rw [if_neg c419] at H
                    exact absurd H (by simp)
              · rw [if_neg c404] at H
                have c404b0 : ((yb378_0_0 : Int) == 0) = false := beq_eq_false_iff_ne.mpr c404
                have c404b1 : ((yb378_0_0 : Int) != 0) = true := bne_iff_ne.mpr c404
                have c404b2 : (yb378_0_0 == 0) = false := by first | simpa using c404 | (simp at c404 ⊢; omega)
                have c404b3 : (yb378_0_0 != 0) = true := by first | simpa using c404 | (simp at c404 ⊢; omega)
                have hc404 := hid c404
                clear c404
                by_cases c430 : x5_0.size + (Utf8.encode ((Utf8.decode (a0.extract (a1 : Int).toNat a0.size) yb378_0_0).1 : Int)).size ≤ 9223372036854775807
                · rw [if_pos c430] at H
                  have hc430 := hid c430
                  clear c430
                  replace H := Option.bind_eq_some_iff.mp H
                  obtain ⟨⟨t389, t390⟩, A431_, H⟩ := H
                  replace H : (if t390 = true then (some (wrap64 ((wrap64 (a1 + (yb378_0_0 : Int))) + 1), t389, 0)) else (some (wrap64 (a1 + (yb378_0_0 : Int)), 0, 2))) = some (r1, r2, r3) := H
                  have A431 := hid A431_
                  clear A431_
                  cases t390 with
                  | true =>
                    rw [if_pos rfl] at H
                    simp only [Option.some.injEq, Prod.mk.injEq] at H
                    obtain ⟨rfl, rfl, rfl⟩ := H
                    have k434 := True.intro
                    go_wp2_with (first
                      | ((with_reducible refine gate_d (N := 19) rfl ?_); refine ag_next_y (a0.extract (a1 : Int).toNat a0.size) gb378 yb378_0_0 BKb378.out hc403.out rfl _ rfl rfl ?_; intro w433 ho_ hB_; replace BKb376 := hid (BKb376.out.off ho_ NBb376_b378.out); replace HL := hid (ho_.below HL.out GEb378.out); replace BKb378 := hid hB_; clear ho_ hB_)
                      | ((with_reducible refine gate_d (N := 39) rfl ?_); refine ag_fix (.string (x5_0 ++ (Utf8.encode ((Utf8.decode (a0.extract (a1 : Int).toNat a0.size) yb378_0_0).1 : Int)))) (ex_cat 9 x5_0 (Utf8.encode ((Utf8.decode (a0.extract (a1 : Int).toNat a0.size) yb378_0_0).1 : Int)) hc430.out _ _ _ rfl rfl rfl) rfl ?_)
                      | (go_at_call 34; clear k434; refine (i_square_Parse.calls k402 (x5_0 ++ (Utf8.encode ((Utf8.decode (a0.extract (a1 : Int).toNat a0.size) yb378_0_0).1 : Int))) t389 true _ A431.out).mono ?_; rintro e_ w435 ⟨rfl, hb_⟩; replace BKb376 := hid (BKb376.out.below hb_ BKb376.out.lt); replace BKb378 := hid (BKb378.out.below hb_ BKb378.out.lt); replace HL := hid (HL.out.trans (hb_.mono HL.out.size)); clear hb_)
                      | ((with_reducible refine gate_d (N := 54) rfl ?_); refine ag_build (.agg #[.int .i64 (wrap64 ((wrap64 (a1 + (yb378_0_0 : Int))) + 1)), .int .i64 t389, .int .i64 0]) _ rfl rfl ?_ ?_; (intro ww_; simp only [List.map_toArray, List.map_cons, List.map_nil]; kernel_rfl))
                      | ((with_reducible refine gate_s (t := 26) (p := 4) rfl ?_); refine ag_store aT26 gb376 0 #[.int .i64 0, .int .i64 0, .int .i64 0] #[.int .i64 (wrap64 ((wrap64 (a1 + (yb378_0_0 : Int))) + 1)), .int .i64 t389, .int .i64 0] #[.int .i64 (wrap64 ((wrap64 (a1 + (yb378_0_0 : Int))) + 1)), .int .i64 t389, .int .i64 0] BKb376.out rfl (by simp) (by intro v_ hv_; simp at hv_; rcases hv_ with rfl | rfl | rfl <;> first | rfl) rfl rfl _ _ rfl rfl rfl ?_; intro w436 ho_ hB_; replace BKb378 := hid (BKb378.out.off ho_ NBb378_b376.out); replace HL := hid (ho_.below HL.out GEb376.out); replace BKb376 := hid hB_; clear ho_ hB_))
                    (try simp only [Act.put, List.setIfInBounds_toArray, List.set_cons_zero, List.set_cons_succ])
                    refine bodyPost_ret (v := .agg #[.int .i64 (wrap64 ((wrap64 (a1 + (yb378_0_0 : Int))) + 1)), .int .i64 t389, .int .i64 0]) (res_c aT26 rfl _ gb376 #[.int .i64 (wrap64 ((wrap64 (a1 + (yb378_0_0 : Int))) + 1)), .int .i64 t389, .int .i64 0] BKb376.out rfl rfl) rfl ?_
                    exact ⟨by first | rfl | (simp; done) | (simp [*]; done), HL.out⟩
                  | false =>
                    rw [if_neg (show ¬ (false = true) by decide)] at H
                    simp only [Option.some.injEq, Prod.mk.injEq] at H
                    obtain ⟨rfl, rfl, rfl⟩ := H
                    have k438 := True.intro
                    go_wp2_with (first
                      | ((with_reducible refine gate_d (N := 19) rfl ?_); refine ag_next_y (a0.extract (a1 : Int).toNat a0.size) gb378 yb378_0_0 BKb378.out hc403.out rfl _ rfl rfl ?_; intro w437 ho_ hB_; replace BKb376 := hid (BKb376.out.off ho_ NBb376_b378.out); replace HL := hid (ho_.below HL.out GEb378.out); replace BKb378 := hid hB_; clear ho_ hB_)
                      | ((with_reducible refine gate_d (N := 39) rfl ?_); refine ag_fix (.string (x5_0 ++ (Utf8.encode ((Utf8.decode (a0.extract (a1 : Int).toNat a0.size) yb378_0_0).1 : Int)))) (ex_cat 9 x5_0 (Utf8.encode ((Utf8.decode (a0.extract (a1 : Int).toNat a0.size) yb378_0_0).1 : Int)) hc430.out _ _ _ rfl rfl rfl) rfl ?_)
                      | (go_at_call 34; clear k438; refine (i_square_Parse.calls k402 (x5_0 ++ (Utf8.encode ((Utf8.decode (a0.extract (a1 : Int).toNat a0.size) yb378_0_0).1 : Int))) t389 false _ A431.out).mono ?_; rintro e_ w439 ⟨rfl, hb_⟩; replace BKb376 := hid (BKb376.out.below hb_ BKb376.out.lt); replace BKb378 := hid (BKb378.out.below hb_ BKb378.out.lt); replace HL := hid (HL.out.trans (hb_.mono HL.out.size)); clear hb_)
                      | ((with_reducible refine gate_d (N := 48) rfl ?_); refine ag_build (.agg #[.int .i64 (wrap64 (a1 + (yb378_0_0 : Int))), .int .i64 0, .int .i64 2]) _ rfl rfl ?_ ?_; (intro ww_; simp only [List.map_toArray, List.map_cons, List.map_nil]; kernel_rfl))
                      | ((with_reducible refine gate_s (t := 26) (p := 4) rfl ?_); refine ag_store aT26 gb376 0 #[.int .i64 0, .int .i64 0, .int .i64 0] #[.int .i64 (wrap64 (a1 + (yb378_0_0 : Int))), .int .i64 0, .int .i64 2] #[.int .i64 (wrap64 (a1 + (yb378_0_0 : Int))), .int .i64 0, .int .i64 2] BKb376.out rfl (by simp) (by intro v_ hv_; simp at hv_; rcases hv_ with rfl | rfl | rfl <;> first | rfl) rfl rfl _ _ rfl rfl rfl ?_; intro w440 ho_ hB_; replace BKb378 := hid (BKb378.out.off ho_ NBb378_b376.out); replace HL := hid (ho_.below HL.out GEb376.out); replace BKb376 := hid hB_; clear ho_ hB_))
                    (try simp only [Act.put, List.setIfInBounds_toArray, List.set_cons_zero, List.set_cons_succ])
                    refine bodyPost_ret (v := .agg #[.int .i64 (wrap64 (a1 + (yb378_0_0 : Int))), .int .i64 0, .int .i64 2]) (res_c aT26 rfl _ gb376 #[.int .i64 (wrap64 (a1 + (yb378_0_0 : Int))), .int .i64 0, .int .i64 2] BKb376.out rfl rfl) rfl ?_
                    exact ⟨by first | rfl | (simp; done) | (simp [*]; done), HL.out⟩
                · rw [if_neg c430] at H
                  exact absurd H (by simp)
            · rw [if_neg c403] at H
              have c403b0 : decide (yb378_0_0 < (a0.extract (a1 : Int).toNat a0.size).size) = false := decide_eq_false c403
              have hc403 := hid c403
              clear c403
              simp only [Option.some.injEq, Prod.mk.injEq] at H
              obtain ⟨rfl, rfl, rfl⟩ := H
              go_wp2_with (first
                | ((with_reducible refine gate_d (N := 19) rfl ?_); refine ag_next_n (a0.extract (a1 : Int).toNat a0.size) gb378 yb378_0_0 BKb378.out hc403.out rfl _ rfl rfl ?_)
                | ((with_reducible refine gate_d (N := 57) rfl ?_); refine ag_build (.agg #[.int .i64 (a0.size : Int), .int .i64 0, .int .i64 1]) _ rfl rfl ?_ ?_; (intro ww_; simp only [List.map_toArray, List.map_cons, List.map_nil]; kernel_rfl))
                | ((with_reducible refine gate_s (t := 26) (p := 4) rfl ?_); refine ag_store aT26 gb376 0 #[.int .i64 0, .int .i64 0, .int .i64 0] #[.int .i64 (a0.size : Int), .int .i64 0, .int .i64 1] #[.int .i64 (a0.size : Int), .int .i64 0, .int .i64 1] BKb376.out rfl (by simp) (by intro v_ hv_; simp at hv_; rcases hv_ with rfl | rfl | rfl <;> first | rfl) rfl rfl _ _ rfl rfl rfl ?_; intro w441 ho_ hB_; replace BKb378 := hid (BKb378.out.off ho_ NBb378_b376.out); replace HL := hid (ho_.below HL.out GEb376.out); replace BKb376 := hid hB_; clear ho_ hB_))
              (try simp only [Act.put, List.setIfInBounds_toArray, List.set_cons_zero, List.set_cons_succ])
              refine bodyPost_ret (v := .agg #[.int .i64 (a0.size : Int), .int .i64 0, .int .i64 1]) (res_c aT26 rfl _ gb376 #[.int .i64 (a0.size : Int), .int .i64 0, .int .i64 1] BKb376.out rfl rfl) rfl ?_
              exact ⟨by first | rfl | (simp; done) | (simp [*]; done), HL.out⟩
      · rw [if_neg c397] at H
        exact absurd H (by simp)
    · rw [if_neg c396] at H
      exact absurd H (by simp)
  | false =>
    rw [if_neg (show ¬ (false = true) by decide)] at H
    replace H := Option.bind_eq_some_iff.mp H
    obtain ⟨⟨t391, t392, t393⟩, A442_, H⟩ := H
    replace H : (some (t391, t392, t393)) = some (r1, r2, r3) := H
    have A442 := hid A442_
    clear A442_
    simp only [Option.some.injEq, Prod.mk.injEq] at H
    obtain ⟨rfl, rfl, rfl⟩ := H
    go_enter Try.func19, Try.ntmps19
    have k444 := True.intro
    have k445 := True.intro
    go_wp2_with (first
      | ((with_reducible refine gate_d (N := 4) rfl ?_); obtain ⟨gb376, hgb376⟩ : ∃ g_, w.heap.size = g_ := ⟨_, rfl⟩; refine ag_alloc aT26 gb376 hgb376 rfl rfl ?_; intro w443 hb_ hB_ hs_; have GEb376 : Hid (w.heap.size ≤ gb376) := hid (by have := HL.out.size; omega); replace HL := hid (HL.out.trans (hb_.mono GEb376.out)); have BKb376 := hid hB_; clear hb_ hB_ hs_ hgb376)
      | (go_at_call 27; clear k444; refine (i_lex_there.calls a0 a1 false _ A394.out).mono ?_; rintro e_ w' ⟨rfl, rfl⟩)
      | (go_at_call 28; clear k445; refine (i_lex_wrong.calls t391 t392 t393 _ A442.out).mono ?_; rintro e_ w446 ⟨rfl, hb_⟩; replace BKb376 := hid (BKb376.out.below hb_ BKb376.out.lt); replace HL := hid (HL.out.trans (hb_.mono HL.out.size)); clear hb_)
      | ((with_reducible refine gate_s (t := 26) (p := 4) rfl ?_); refine ag_store aT26 gb376 0 #[.int .i64 0, .int .i64 0, .int .i64 0] #[.int .i64 t391, .int .i64 t392, .int .i64 t393] #[.int .i64 t391, .int .i64 t392, .int .i64 t393] BKb376.out rfl (by simp) (by intro v_ hv_; simp at hv_; rcases hv_ with rfl | rfl | rfl <;> first | rfl) rfl rfl _ _ rfl rfl rfl ?_; intro w447 ho_ hB_; replace HL := hid (ho_.below HL.out GEb376.out); replace BKb376 := hid hB_; clear ho_ hB_))
    (try simp only [Act.put, List.setIfInBounds_toArray, List.set_cons_zero, List.set_cons_succ])
    refine bodyPost_ret (v := .agg #[.int .i64 t391, .int .i64 t392, .int .i64 t393]) (res_c aT26 rfl _ gb376 #[.int .i64 t391, .int .i64 t392, .int .i64 t393] BKb376.out rfl rfl) rfl ?_
    exact ⟨by first | rfl | (simp; done) | (simp [*]; done), HL.out⟩
/-! i_alfilref01_Right: function 70 -/
def i_alfilref01_Right.f (a0 : Int) : Option (Bool) := if 0 ≤ a0 then (some (decide (a0 ≤ 63))) else (some false)
set_option maxHeartbeats 40000000 in
set_option maxRecDepth 100000 in
theorem i_alfilref01_Right.calls (a0 : Int) (r1 : Bool) (w : World) (h : i_alfilref01_Right.f a0 = some r1) :
    Calls Try.prog 70 #[.int .i64 a0] w fun e w' => e = .returned (.bool r1) ∧ w = w' := by
  have H : (if 0 ≤ a0 then (some (decide (a0 ≤ 63))) else (some false)) = some r1 := h
  clear h
  by_cases c448 : 0 ≤ a0
  · rw [if_pos c448] at H
    have c448b0 : decide (0 ≤ a0) = true := decide_eq_true c448
    have hc448 := hid c448
    clear c448
    obtain rfl := Option.some.inj H
    clear H
    go_enter Try.func70, Try.ntmps70
    go_wp2_with fail
    (try simp only [Act.put, List.setIfInBounds_toArray, List.set_cons_zero, List.set_cons_succ])
    go_ret
    exact ⟨by first | rfl | (simp; done) | (simp [*]; done), rfl⟩
  · rw [if_neg c448] at H
    have c448b0 : decide (0 ≤ a0) = false := decide_eq_false c448
    have hc448 := hid c448
    clear c448
    obtain rfl := Option.some.inj H
    clear H
    go_enter Try.func70, Try.ntmps70
    go_wp2_with fail
    (try simp only [Act.put, List.setIfInBounds_toArray, List.set_cons_zero, List.set_cons_succ])
    go_ret
    exact ⟨by first | rfl | (simp; done) | (simp [*]; done), rfl⟩
/-! i_alfilref01_File: function 71 -/
def i_alfilref01_File.l0 : Nat → Int → Option (Int)
  | 0, _ => none
  | k + 1, x0_0 => if x0_0 ≥ 8 then (i_alfilref01_File.l0 k (wrap64 (x0_0 - 8))) else (some x0_0)
def i_alfilref01_File.f (k : Nat) (a0 : Int) : Option (Int) := (i_alfilref01_Right.f a0).bind fun t449 => (if t449 = true then (i_alfilref01_File.l0 k a0) else (some (-1)))
set_option maxHeartbeats 40000000 in
set_option maxRecDepth 100000 in
theorem i_alfilref01_File.calls (k : Nat) (a0 : Int) (r1 : Int) (w : World) (h : i_alfilref01_File.f k a0 = some r1) :
    Calls Try.prog 71 #[.int .i64 a0] w fun e w' => e = .returned (.int .i64 r1) ∧ w = w' := by
  have H : ((i_alfilref01_Right.f a0).bind fun t449 => (if t449 = true then (i_alfilref01_File.l0 k a0) else (some (-1)))) = some r1 := h
  clear h
  replace H := Option.bind_eq_some_iff.mp H
  obtain ⟨t449, A450_, H⟩ := H
  replace H : (if t449 = true then (i_alfilref01_File.l0 k a0) else (some (-1))) = some r1 := H
  have A450 := hid A450_
  clear A450_
  cases t449 with
  | true =>
    rw [if_pos rfl] at H
    have H' := hid H
    clear H
    go_enter Try.func71, Try.ntmps71
    have k452 := True.intro
    go_wp2_with (first
      | (go_at_call 70; clear k452; refine (i_alfilref01_Right.calls a0 true _ A450.out).mono ?_; rintro e_ w' ⟨rfl, rfl⟩))
    (try simp only [Act.put, List.setIfInBounds_toArray, List.set_cons_zero, List.set_cons_succ])
    go_loopg [0] k (fun kq v0 w' => ∃ (x0_0 : Int), v0 = .int .i64 x0_0 ∧ Hid (i_alfilref01_File.l0 kq x0_0 = some r1) ∧ Hid (kq ≤ k) ∧ w = w')
    case atStart => exact ⟨a0, (by first | rfl | (simp; done) | (simp [*]; done)), H', (hid (by first | omega | (omega))), rfl⟩
    case round =>
      clear H'
      skip
      obtain ⟨x0_0, rfl, HA, HK453, rfl⟩ := hrel
      cases gk with
      | zero => exact absurd HA.out (by simp [i_alfilref01_File.l0])
      | succ k454 =>
        have H := HA.out
        clear HA
        simp only [i_alfilref01_File.l0] at H
        by_cases c455 : x0_0 ≥ 8
        · rw [if_pos c455] at H
          have c455b0 : decide (8 ≤ x0_0) = true := decide_eq_true c455
          have hc455 := hid c455
          clear c455
          have H' := hid H
          clear H
          go_wp2_with fail
          (try simp only [Act.put, List.setIfInBounds_toArray, List.set_cons_zero, List.set_cons_succ])
          go_roundg k454
          case measure => have := HK453.out; omega
          case rel => exact ⟨wrap64 (x0_0 - 8), (by first | rfl | (simp; done) | (simp [*]; done)), H', (hid (by first | omega | (have := HK453.out; omega))), rfl⟩
        · rw [if_neg c455] at H
          have c455b0 : decide (8 ≤ x0_0) = false := decide_eq_false c455
          have hc455 := hid c455
          clear c455
          obtain rfl := Option.some.inj H
          clear H
          go_wp2_with fail
          (try simp only [Act.put, List.setIfInBounds_toArray, List.set_cons_zero, List.set_cons_succ])
          go_ret
          exact ⟨by first | rfl | (simp; done) | (simp [*]; done), rfl⟩
  | false =>
    rw [if_neg (show ¬ (false = true) by decide)] at H
    obtain rfl := Option.some.inj H
    clear H
    go_enter Try.func71, Try.ntmps71
    have k456 := True.intro
    go_wp2_with (first
      | (go_at_call 70; clear k456; refine (i_alfilref01_Right.calls a0 false _ A450.out).mono ?_; rintro e_ w' ⟨rfl, rfl⟩))
    (try simp only [Act.put, List.setIfInBounds_toArray, List.set_cons_zero, List.set_cons_succ])
    go_ret
    exact ⟨by first | rfl | (simp; done) | (simp [*]; done), rfl⟩
/-! i_alfilref01_Rank: function 72 -/
def i_alfilref01_Rank.l0 : Nat → Int → Int → Option (Int)
  | 0, _, _ => none
  | k + 1, x0_0, x3_0 => if x0_0 ≥ 8 then (i_alfilref01_Rank.l0 k (wrap64 (x0_0 - 8)) (wrap64 (x3_0 + 1))) else (some x3_0)
def i_alfilref01_Rank.f (k : Nat) (a0 : Int) : Option (Int) := (i_alfilref01_Right.f a0).bind fun t457 => (if t457 = true then (i_alfilref01_Rank.l0 k a0 0) else (some (-1)))
set_option maxHeartbeats 40000000 in
set_option maxRecDepth 100000 in
theorem i_alfilref01_Rank.calls (k : Nat) (a0 : Int) (r1 : Int) (w : World) (h : i_alfilref01_Rank.f k a0 = some r1) :
    Calls Try.prog 72 #[.int .i64 a0] w fun e w' => e = .returned (.int .i64 r1) ∧ w = w' := by
  have H : ((i_alfilref01_Right.f a0).bind fun t457 => (if t457 = true then (i_alfilref01_Rank.l0 k a0 0) else (some (-1)))) = some r1 := h
  clear h
  replace H := Option.bind_eq_some_iff.mp H
  obtain ⟨t457, A458_, H⟩ := H
  replace H : (if t457 = true then (i_alfilref01_Rank.l0 k a0 0) else (some (-1))) = some r1 := H
  have A458 := hid A458_
  clear A458_
  cases t457 with
  | true =>
    rw [if_pos rfl] at H
    have H' := hid H
    clear H
    go_enter Try.func72, Try.ntmps72
    have k460 := True.intro
    go_wp2_with (first
      | (go_at_call 70; clear k460; refine (i_alfilref01_Right.calls a0 true _ A458.out).mono ?_; rintro e_ w' ⟨rfl, rfl⟩))
    (try simp only [Act.put, List.setIfInBounds_toArray, List.set_cons_zero, List.set_cons_succ])
    go_loopg [0, 3] k (fun kq v0 v3 w' => ∃ (x0_0 : Int) (x3_0 : Int), v0 = .int .i64 x0_0 ∧ v3 = .int .i64 x3_0 ∧ Hid (i_alfilref01_Rank.l0 kq x0_0 x3_0 = some r1) ∧ Hid (kq ≤ k) ∧ w = w')
    case atStart => exact ⟨a0, (0 : Int), (by first | rfl | (simp; done) | (simp [*]; done)), (by first | rfl | (simp; done) | (simp [*]; done)), H', (hid (by first | omega | (omega))), rfl⟩
    case round =>
      clear H'
      skip
      obtain ⟨x0_0, x3_0, rfl, rfl, HA, HK461, rfl⟩ := hrel
      cases gk with
      | zero => exact absurd HA.out (by simp [i_alfilref01_Rank.l0])
      | succ k462 =>
        have H := HA.out
        clear HA
        simp only [i_alfilref01_Rank.l0] at H
        by_cases c463 : x0_0 ≥ 8
        · rw [if_pos c463] at H
          have c463b0 : decide (8 ≤ x0_0) = true := decide_eq_true c463
          have hc463 := hid c463
          clear c463
          have H' := hid H
          clear H
          go_wp2_with fail
          (try simp only [Act.put, List.setIfInBounds_toArray, List.set_cons_zero, List.set_cons_succ])
          go_roundg k462
          case measure => have := HK461.out; omega
          case rel => exact ⟨wrap64 (x0_0 - 8), wrap64 (x3_0 + 1), (by first | rfl | (simp; done) | (simp [*]; done)), (by first | rfl | (simp; done) | (simp [*]; done)), H', (hid (by first | omega | (have := HK461.out; omega))), rfl⟩
        · rw [if_neg c463] at H
          have c463b0 : decide (8 ≤ x0_0) = false := decide_eq_false c463
          have hc463 := hid c463
          clear c463
          obtain rfl := Option.some.inj H
          clear H
          go_wp2_with fail
          (try simp only [Act.put, List.setIfInBounds_toArray, List.set_cons_zero, List.set_cons_succ])
          go_ret
          exact ⟨by first | rfl | (simp; done) | (simp [*]; done), rfl⟩
  | false =>
    rw [if_neg (show ¬ (false = true) by decide)] at H
    obtain rfl := Option.some.inj H
    clear H
    go_enter Try.func72, Try.ntmps72
    have k464 := True.intro
    go_wp2_with (first
      | (go_at_call 70; clear k464; refine (i_alfilref01_Right.calls a0 false _ A458.out).mono ?_; rintro e_ w' ⟨rfl, rfl⟩))
    (try simp only [Act.put, List.setIfInBounds_toArray, List.set_cons_zero, List.set_cons_succ])
    go_ret
    exact ⟨by first | rfl | (simp; done) | (simp [*]; done), rfl⟩
/-! i_alfilref01_Name: function 47 -/
def i_alfilref01_Name.f (k : Nat) (a0 : Int) : Option (ByteArray) := (i_alfilref01_Right.f a0).bind fun t465 => (if t465 = true then ((i_alfilref01_File.f k a0).bind fun t466 => ((i_alfilref01_Rank.f k a0).bind fun t467 => (if 0 ≤ t466 then (if t466 ≤ (wrap64 (t466 + 1)) then (if (wrap64 (t466 + 1)) ≤ 8 then (if 0 ≤ t467 then (if t467 ≤ (wrap64 (t467 + 1)) then (if (wrap64 (t467 + 1)) ≤ 8 then (if ((⟨#[97, 98, 99, 100, 101, 102, 103, 104]⟩ : ByteArray).extract (t466 : Int).toNat ((wrap64 (t466 + 1)) : Int).toNat).size + ((⟨#[49, 50, 51, 52, 53, 54, 55, 56]⟩ : ByteArray).extract (t467 : Int).toNat ((wrap64 (t467 + 1)) : Int).toNat).size ≤ 9223372036854775807 then (some (((⟨#[97, 98, 99, 100, 101, 102, 103, 104]⟩ : ByteArray).extract (t466 : Int).toNat ((wrap64 (t466 + 1)) : Int).toNat) ++ ((⟨#[49, 50, 51, 52, 53, 54, 55, 56]⟩ : ByteArray).extract (t467 : Int).toNat ((wrap64 (t467 + 1)) : Int).toNat))) else (none)) else (none)) else (none)) else (none)) else (none)) else (none)) else (none)))) else (some (⟨#[45]⟩ : ByteArray)))
set_option maxHeartbeats 40000000 in
set_option maxRecDepth 100000 in
theorem i_alfilref01_Name.calls (k : Nat) (a0 : Int) (r1 : ByteArray) (w : World) (h : i_alfilref01_Name.f k a0 = some r1) :
    Calls Try.prog 47 #[.int .i64 a0] w fun e w' => e = .returned (.string r1) ∧ Below w.heap.size w w' := by
  have HL := hid (Below.refl w.heap.size w)
  have H : ((i_alfilref01_Right.f a0).bind fun t465 => (if t465 = true then ((i_alfilref01_File.f k a0).bind fun t466 => ((i_alfilref01_Rank.f k a0).bind fun t467 => (if 0 ≤ t466 then (if t466 ≤ (wrap64 (t466 + 1)) then (if (wrap64 (t466 + 1)) ≤ 8 then (if 0 ≤ t467 then (if t467 ≤ (wrap64 (t467 + 1)) then (if (wrap64 (t467 + 1)) ≤ 8 then (if ((⟨#[97, 98, 99, 100, 101, 102, 103, 104]⟩ : ByteArray).extract (t466 : Int).toNat ((wrap64 (t466 + 1)) : Int).toNat).size + ((⟨#[49, 50, 51, 52, 53, 54, 55, 56]⟩ : ByteArray).extract (t467 : Int).toNat ((wrap64 (t467 + 1)) : Int).toNat).size ≤ 9223372036854775807 then (some (((⟨#[97, 98, 99, 100, 101, 102, 103, 104]⟩ : ByteArray).extract (t466 : Int).toNat ((wrap64 (t466 + 1)) : Int).toNat) ++ ((⟨#[49, 50, 51, 52, 53, 54, 55, 56]⟩ : ByteArray).extract (t467 : Int).toNat ((wrap64 (t467 + 1)) : Int).toNat))) else (none)) else (none)) else (none)) else (none)) else (none)) else (none)) else (none)))) else (some (⟨#[45]⟩ : ByteArray)))) = some r1 := h
  clear h
  replace H := Option.bind_eq_some_iff.mp H
  obtain ⟨t465, A468_, H⟩ := H
  replace H : (if t465 = true then ((i_alfilref01_File.f k a0).bind fun t466 => ((i_alfilref01_Rank.f k a0).bind fun t467 => (if 0 ≤ t466 then (if t466 ≤ (wrap64 (t466 + 1)) then (if (wrap64 (t466 + 1)) ≤ 8 then (if 0 ≤ t467 then (if t467 ≤ (wrap64 (t467 + 1)) then (if (wrap64 (t467 + 1)) ≤ 8 then (if ((⟨#[97, 98, 99, 100, 101, 102, 103, 104]⟩ : ByteArray).extract (t466 : Int).toNat ((wrap64 (t466 + 1)) : Int).toNat).size + ((⟨#[49, 50, 51, 52, 53, 54, 55, 56]⟩ : ByteArray).extract (t467 : Int).toNat ((wrap64 (t467 + 1)) : Int).toNat).size ≤ 9223372036854775807 then (some (((⟨#[97, 98, 99, 100, 101, 102, 103, 104]⟩ : ByteArray).extract (t466 : Int).toNat ((wrap64 (t466 + 1)) : Int).toNat) ++ ((⟨#[49, 50, 51, 52, 53, 54, 55, 56]⟩ : ByteArray).extract (t467 : Int).toNat ((wrap64 (t467 + 1)) : Int).toNat))) else (none)) else (none)) else (none)) else (none)) else (none)) else (none)) else (none)))) else (some (⟨#[45]⟩ : ByteArray))) = some r1 := H
  have A468 := hid A468_
  clear A468_
  cases t465 with
  | true =>
    rw [if_pos rfl] at H
    replace H := Option.bind_eq_some_iff.mp H
    obtain ⟨t466, A470_, H⟩ := H
    replace H : ((i_alfilref01_Rank.f k a0).bind fun t467 => (if 0 ≤ t466 then (if t466 ≤ (wrap64 (t466 + 1)) then (if (wrap64 (t466 + 1)) ≤ 8 then (if 0 ≤ t467 then (if t467 ≤ (wrap64 (t467 + 1)) then (if (wrap64 (t467 + 1)) ≤ 8 then (if ((⟨#[97, 98, 99, 100, 101, 102, 103, 104]⟩ : ByteArray).extract (t466 : Int).toNat ((wrap64 (t466 + 1)) : Int).toNat).size + ((⟨#[49, 50, 51, 52, 53, 54, 55, 56]⟩ : ByteArray).extract (t467 : Int).toNat ((wrap64 (t467 + 1)) : Int).toNat).size ≤ 9223372036854775807 then (some (((⟨#[97, 98, 99, 100, 101, 102, 103, 104]⟩ : ByteArray).extract (t466 : Int).toNat ((wrap64 (t466 + 1)) : Int).toNat) ++ ((⟨#[49, 50, 51, 52, 53, 54, 55, 56]⟩ : ByteArray).extract (t467 : Int).toNat ((wrap64 (t467 + 1)) : Int).toNat))) else (none)) else (none)) else (none)) else (none)) else (none)) else (none)) else (none))) = some r1 := H
    have A470 := hid A470_
    clear A470_
    replace H := Option.bind_eq_some_iff.mp H
    obtain ⟨t467, A471_, H⟩ := H
    replace H : (if 0 ≤ t466 then (if t466 ≤ (wrap64 (t466 + 1)) then (if (wrap64 (t466 + 1)) ≤ 8 then (if 0 ≤ t467 then (if t467 ≤ (wrap64 (t467 + 1)) then (if (wrap64 (t467 + 1)) ≤ 8 then (if ((⟨#[97, 98, 99, 100, 101, 102, 103, 104]⟩ : ByteArray).extract (t466 : Int).toNat ((wrap64 (t466 + 1)) : Int).toNat).size + ((⟨#[49, 50, 51, 52, 53, 54, 55, 56]⟩ : ByteArray).extract (t467 : Int).toNat ((wrap64 (t467 + 1)) : Int).toNat).size ≤ 9223372036854775807 then (some (((⟨#[97, 98, 99, 100, 101, 102, 103, 104]⟩ : ByteArray).extract (t466 : Int).toNat ((wrap64 (t466 + 1)) : Int).toNat) ++ ((⟨#[49, 50, 51, 52, 53, 54, 55, 56]⟩ : ByteArray).extract (t467 : Int).toNat ((wrap64 (t467 + 1)) : Int).toNat))) else (none)) else (none)) else (none)) else (none)) else (none)) else (none)) else (none)) = some r1 := H
    have A471 := hid A471_
    clear A471_
    by_cases c472 : 0 ≤ t466
    · rw [if_pos c472] at H
      have c472b0 : decide (0 ≤ t466) = true := decide_eq_true c472
      have hc472 := hid c472
      clear c472
      by_cases c473 : t466 ≤ (wrap64 (t466 + 1))
      · rw [if_pos c473] at H
        have c473b0 : decide (t466 ≤ (wrap64 (t466 + 1))) = true := decide_eq_true c473
        have hc473 := hid c473
        clear c473
        by_cases c474 : (wrap64 (t466 + 1)) ≤ 8
        · rw [if_pos c474] at H
          have c474b0 : decide ((wrap64 (t466 + 1)) ≤ 8) = true := decide_eq_true c474
          have hc474 := hid c474
          clear c474
          by_cases c475 : 0 ≤ t467
          · rw [if_pos c475] at H
            have c475b0 : decide (0 ≤ t467) = true := decide_eq_true c475
            have hc475 := hid c475
            clear c475
            by_cases c476 : t467 ≤ (wrap64 (t467 + 1))
            · rw [if_pos c476] at H
              have c476b0 : decide (t467 ≤ (wrap64 (t467 + 1))) = true := decide_eq_true c476
              have hc476 := hid c476
              clear c476
              by_cases c477 : (wrap64 (t467 + 1)) ≤ 8
              · rw [if_pos c477] at H
                have c477b0 : decide ((wrap64 (t467 + 1)) ≤ 8) = true := decide_eq_true c477
                have hc477 := hid c477
                clear c477
                by_cases c478 : ((⟨#[97, 98, 99, 100, 101, 102, 103, 104]⟩ : ByteArray).extract (t466 : Int).toNat ((wrap64 (t466 + 1)) : Int).toNat).size + ((⟨#[49, 50, 51, 52, 53, 54, 55, 56]⟩ : ByteArray).extract (t467 : Int).toNat ((wrap64 (t467 + 1)) : Int).toNat).size ≤ 9223372036854775807
                · rw [if_pos c478] at H
                  have hc478 := hid c478
                  clear c478
                  obtain rfl := Option.some.inj H
                  clear H
                  go_enter Try.func47, Try.ntmps47
                  have k479 := True.intro
                  have k480 := True.intro
                  have k481 := True.intro
                  go_wp2_with (first
                    | (go_at_call 70; clear k479; refine (i_alfilref01_Right.calls a0 true _ A468.out).mono ?_; rintro e_ w' ⟨rfl, rfl⟩)
                    | (go_at_call 71; clear k480; refine (i_alfilref01_File.calls k a0 t466 _ A470.out).mono ?_; rintro e_ w' ⟨rfl, rfl⟩)
                    | (go_at_call 72; clear k481; refine (i_alfilref01_Rank.calls k a0 t467 _ A471.out).mono ?_; rintro e_ w' ⟨rfl, rfl⟩))
                  (try simp only [Act.put, List.setIfInBounds_toArray, List.set_cons_zero, List.set_cons_succ])
                  have WR64 := i64_w
                  have WR32 := i32_w
                  refine up_regionW (by kernel_rfl) (by kernel_rfl) ?_
                  refine q_do (.string (⟨#[97, 98, 99, 100, 101, 102, 103, 104]⟩ : ByteArray)) (fun w'_ hc_ => ex_mv (.tmp 3) (.inl rfl) _ rfl) rfl rfl ?_
                  intro ts_ ht_; simp only [List.setIfInBounds_toArray, List.set_cons_zero, List.set_cons_succ] at ht_; subst ht_
                  refine q_do (.int .i64 t466) (fun w'_ hc_ => ex_mv (.tmp 5) (.inl rfl) _ rfl) rfl rfl ?_
                  intro ts_ ht_; simp only [List.setIfInBounds_toArray, List.set_cons_zero, List.set_cons_succ] at ht_; subst ht_
                  refine q_do (.int .i64 t466) (fun w'_ hc_ => ex_mv (.tmp 5) (.inl rfl) _ rfl) rfl rfl ?_
                  intro ts_ ht_; simp only [List.setIfInBounds_toArray, List.set_cons_zero, List.set_cons_succ] at ht_; subst ht_
                  refine q_do (.int .i64 (wrap64 (t466 + 1))) (fun w'_ hc_ => by go_simp) rfl rfl ?_
                  intro ts_ ht_; simp only [List.setIfInBounds_toArray, List.set_cons_zero, List.set_cons_succ] at ht_; subst ht_
                  refine q_do (.string ((⟨#[97, 98, 99, 100, 101, 102, 103, 104]⟩ : ByteArray).extract (t466 : Int).toNat ((wrap64 (t466 + 1)) : Int).toNat)) (fun w'_ hc_ => by obtain ⟨n_, hn_⟩ := hc_; exact ex_cut_lh 9 und_txt (⟨#[97, 98, 99, 100, 101, 102, 103, 104]⟩ : ByteArray) t466 (wrap64 (t466 + 1)) hc472.out hc473.out hc474.out _ _ _ rfl rfl rfl rfl) rfl rfl ?_
                  intro ts_ ht_; simp only [List.setIfInBounds_toArray, List.set_cons_zero, List.set_cons_succ] at ht_; subst ht_
                  refine q_do (.string (⟨#[49, 50, 51, 52, 53, 54, 55, 56]⟩ : ByteArray)) (fun w'_ hc_ => ex_mv (.tmp 4) (.inl rfl) _ rfl) rfl rfl ?_
                  intro ts_ ht_; simp only [List.setIfInBounds_toArray, List.set_cons_zero, List.set_cons_succ] at ht_; subst ht_
                  refine q_do (.int .i64 t467) (fun w'_ hc_ => ex_mv (.tmp 6) (.inl rfl) _ rfl) rfl rfl ?_
                  intro ts_ ht_; simp only [List.setIfInBounds_toArray, List.set_cons_zero, List.set_cons_succ] at ht_; subst ht_
                  refine q_do (.int .i64 t467) (fun w'_ hc_ => ex_mv (.tmp 6) (.inl rfl) _ rfl) rfl rfl ?_
                  intro ts_ ht_; simp only [List.setIfInBounds_toArray, List.set_cons_zero, List.set_cons_succ] at ht_; subst ht_
                  refine q_do (.int .i64 (wrap64 (t467 + 1))) (fun w'_ hc_ => by go_simp) rfl rfl ?_
                  intro ts_ ht_; simp only [List.setIfInBounds_toArray, List.set_cons_zero, List.set_cons_succ] at ht_; subst ht_
                  refine q_do (.string ((⟨#[49, 50, 51, 52, 53, 54, 55, 56]⟩ : ByteArray).extract (t467 : Int).toNat ((wrap64 (t467 + 1)) : Int).toNat)) (fun w'_ hc_ => by obtain ⟨n_, hn_⟩ := hc_; exact ex_cut_lh 9 und_txt (⟨#[49, 50, 51, 52, 53, 54, 55, 56]⟩ : ByteArray) t467 (wrap64 (t467 + 1)) hc475.out hc476.out hc477.out _ _ _ rfl rfl rfl rfl) rfl rfl ?_
                  intro ts_ ht_; simp only [List.setIfInBounds_toArray, List.set_cons_zero, List.set_cons_succ] at ht_; subst ht_
                  refine q_do (.string (((⟨#[97, 98, 99, 100, 101, 102, 103, 104]⟩ : ByteArray).extract (t466 : Int).toNat ((wrap64 (t466 + 1)) : Int).toNat) ++ ((⟨#[49, 50, 51, 52, 53, 54, 55, 56]⟩ : ByteArray).extract (t467 : Int).toNat ((wrap64 (t467 + 1)) : Int).toNat))) (fun w'_ hc_ => by obtain ⟨n_, hn_⟩ := hc_; exact ex_cat 9 ((⟨#[97, 98, 99, 100, 101, 102, 103, 104]⟩ : ByteArray).extract (t466 : Int).toNat ((wrap64 (t466 + 1)) : Int).toNat) ((⟨#[49, 50, 51, 52, 53, 54, 55, 56]⟩ : ByteArray).extract (t467 : Int).toNat ((wrap64 (t467 + 1)) : Int).toNat) hc478.out _ _ _ rfl rfl rfl) rfl rfl ?_
                  intro ts_ ht_; simp only [List.setIfInBounds_toArray, List.set_cons_zero, List.set_cons_succ] at ht_; subst ht_
                  refine q_do (.string (((⟨#[97, 98, 99, 100, 101, 102, 103, 104]⟩ : ByteArray).extract (t466 : Int).toNat ((wrap64 (t466 + 1)) : Int).toNat) ++ ((⟨#[49, 50, 51, 52, 53, 54, 55, 56]⟩ : ByteArray).extract (t467 : Int).toNat ((wrap64 (t467 + 1)) : Int).toNat))) (fun w'_ hc_ => ex_mv (.tmp 24) (.inr rfl) _ rfl) rfl rfl ?_
                  intro ts_ ht_; simp only [List.setIfInBounds_toArray, List.set_cons_zero, List.set_cons_succ] at ht_; subst ht_
                  refine q_end ?_
                  rintro w8_ ⟨n_, rfl⟩
                  replace HL := hid (HL.out.trans (n_.below.mono HL.out.size))
                  generalize n_.world = w482 at *
                  clear n_ WR64 WR32
                  go_wp2_with fail
                  (try simp only [Act.put, List.setIfInBounds_toArray, List.set_cons_zero, List.set_cons_succ])
                  go_ret
                  exact ⟨by first | rfl | (simp; done) | (simp [*]; done), HL.out⟩
                · rw [if_neg c478] at H
                  exact absurd H (by simp)
              · rw [if_neg c477] at H
                exact absurd H (by simp)
            · rw [if_neg c476] at H
              exact absurd H (by simp)
          · rw [if_neg c475] at H
            exact absurd H (by simp)
        · rw [if_neg c474] at H
          exact absurd H (by simp)
      · rw [if_neg c473] at H
        exact absurd H (by simp)
    · rw [if_neg c472] at H
      exact absurd H (by simp)
  | false =>
    rw [if_neg (show ¬ (false = true) by decide)] at H
    obtain rfl := Option.some.inj H
    clear H
    go_enter Try.func47, Try.ntmps47
    have k483 := True.intro
    go_wp2_with (first
      | (go_at_call 70; clear k483; refine (i_alfilref01_Right.calls a0 false _ A468.out).mono ?_; rintro e_ w' ⟨rfl, rfl⟩))
    (try simp only [Act.put, List.setIfInBounds_toArray, List.set_cons_zero, List.set_cons_succ])
    go_ret
    exact ⟨by first | rfl | (simp; done) | (simp [*]; done), HL.out⟩
/-! i_alfilref01_Called: function 35 -/
def i_alfilref01_Called.l0 : Nat → ByteArray → Int → Option (Int)
  | 0, _, _ => none
  | k + 1, a0, x3_0 => if x3_0 < 64 then ((i_alfilref01_Name.f k x3_0).bind fun t485 => (if t485.toList = a0.toList then (some x3_0) else (i_alfilref01_Called.l0 k a0 (wrap64 (x3_0 + 1))))) else (some (-1))
def i_alfilref01_Called.f (k : Nat) (a0 : ByteArray) : Option (Int) := i_alfilref01_Called.l0 k a0 0
set_option maxHeartbeats 40000000 in
set_option maxRecDepth 100000 in
theorem i_alfilref01_Called.calls (k : Nat) (a0 : ByteArray) (r1 : Int) (w : World) (h : i_alfilref01_Called.f k a0 = some r1) :
    Calls Try.prog 35 #[.string a0] w fun e w' => e = .returned (.int .i64 r1) ∧ Below w.heap.size w w' := by
  have HL := hid (Below.refl w.heap.size w)
  have H : (i_alfilref01_Called.l0 k a0 0) = some r1 := h
  clear h
  have H' := hid H
  clear H
  go_enter Try.func35, Try.ntmps35
  go_wp2_with fail
  (try simp only [Act.put, List.setIfInBounds_toArray, List.set_cons_zero, List.set_cons_succ])
  go_loopg [3] k (fun kq v3 w' => ∃ (x3_0 : Int), v3 = .int .i64 x3_0 ∧ Hid (i_alfilref01_Called.l0 kq a0 x3_0 = some r1) ∧ Hid (kq ≤ k) ∧ Hid (Below w.heap.size w w'))
  case atStart => exact ⟨(0 : Int), (by first | rfl | (simp; done) | (simp [*]; done)), H', (hid (by first | omega | (omega))), HL⟩
  case round =>
    clear H'
    clear HL
    obtain ⟨x3_0, rfl, HA, HK486, HL⟩ := hrel
    cases gk with
    | zero => exact absurd HA.out (by simp [i_alfilref01_Called.l0])
    | succ k487 =>
      have H := HA.out
      clear HA
      simp only [i_alfilref01_Called.l0] at H
      by_cases c488 : x3_0 < 64
      · rw [if_pos c488] at H
        have c488b0 : decide (x3_0 < 64) = true := decide_eq_true c488
        have hc488 := hid c488
        clear c488
        replace H := Option.bind_eq_some_iff.mp H
        obtain ⟨t485, A489_, H⟩ := H
        replace H : (if t485.toList = a0.toList then (some x3_0) else (i_alfilref01_Called.l0 k487 a0 (wrap64 (x3_0 + 1)))) = some r1 := H
        have A489 := hid A489_
        clear A489_
        by_cases c490 : t485.toList = a0.toList
        · rw [if_pos c490] at H
          have c490b0 : (t485.toList == a0.toList) = true := beq_iff_eq.mpr c490
          have c490b1 : (t485.toList != a0.toList) = false := bne_eq_false_iff_eq.mpr c490
          have hc490 := hid c490
          clear c490
          obtain rfl := Option.some.inj H
          clear H
          have k491 := True.intro
          go_wp2_with (first
            | (go_at_call 47; clear k491; refine (i_alfilref01_Name.calls k487 x3_0 t485 _ A489.out).mono ?_; rintro e_ w492 ⟨rfl, hb_⟩; replace HL := hid (HL.out.trans (hb_.mono HL.out.size)); clear hb_))
          (try simp only [Act.put, List.setIfInBounds_toArray, List.set_cons_zero, List.set_cons_succ])
          go_ret
          exact ⟨by first | rfl | (simp; done) | (simp [*]; done), HL.out⟩
        · rw [if_neg c490] at H
          have c490b0 : (t485.toList == a0.toList) = false := beq_eq_false_iff_ne.mpr c490
          have c490b1 : (t485.toList != a0.toList) = true := bne_iff_ne.mpr c490
          have hc490 := hid c490
          clear c490
          have H' := hid H
          clear H
          have k493 := True.intro
          go_wp2_with (first
            | (go_at_call 47; clear k493; refine (i_alfilref01_Name.calls k487 x3_0 t485 _ A489.out).mono ?_; rintro e_ w494 ⟨rfl, hb_⟩; replace HL := hid (HL.out.trans (hb_.mono HL.out.size)); clear hb_))
          (try simp only [Act.put, List.setIfInBounds_toArray, List.set_cons_zero, List.set_cons_succ])
          go_roundg k487
          case measure => have := HK486.out; omega
          case rel => exact ⟨wrap64 (x3_0 + 1), (by first | rfl | (simp; done) | (simp [*]; done)), H', (hid (by first | omega | (have := HK486.out; omega))), HL⟩
      · rw [if_neg c488] at H
        have c488b0 : decide (x3_0 < 64) = false := decide_eq_false c488
        have hc488 := hid c488
        clear c488
        obtain rfl := Option.some.inj H
        clear H
        go_wp2_with fail
        (try simp only [Act.put, List.setIfInBounds_toArray, List.set_cons_zero, List.set_cons_succ])
        go_ret
        exact ⟨by first | rfl | (simp; done) | (simp [*]; done), HL.out⟩
/-! i_alfilref14_Square: function 20 -/
def i_alfilref14_Square.f (k : Nat) (a0 : ByteArray) (a1 : Int) : Option (Int × Int × Int) := (i_alfilref14_There.f a0 a1).bind fun t496 => (if t496 = true then (if a1 = (a0.size : Int) then (some (a1, 0, 1)) else (if 0 ≤ a1 then (if a1 < (a0.size : Int) then (if (bt a0 a1.toNat) < 97 then (some (a1, 0, 2)) else (if (bt a0 a1.toNat) > 104 then (some (a1, 0, 2)) else (if (wrap64 (a1 + 1)) = (a0.size : Int) then (some (wrap64 (a1 + 1), 0, 1)) else (if a1 ≤ (wrap64 (a1 + 2)) then (if (wrap64 (a1 + 2)) ≤ (a0.size : Int) then ((i_alfilref01_Called.f k (a0.extract (a1 : Int).toNat ((wrap64 (a1 + 2)) : Int).toNat)).bind fun t497 => (if t497 < 0 then (some (wrap64 (a1 + 1), 0, 2)) else (some (wrap64 (a1 + 2), t497, 0)))) else (none)) else (none))))) else (none)) else (none))) else (some (0, 0, 5)))
set_option maxHeartbeats 40000000 in
set_option maxRecDepth 100000 in
theorem i_alfilref14_Square.calls (k : Nat) (a0 : ByteArray) (a1 : Int) (r1 : Int) (r2 : Int) (r3 : Int) (w : World) (h : i_alfilref14_Square.f k a0 a1 = some (r1, r2, r3)) :
    Calls Try.prog 20 #[.string a0, .int .i64 a1] w fun e w' => e = .returned (.agg #[.int .i64 r1, .int .i64 r2, .int .i64 r3]) ∧ Below w.heap.size w w' := by
  have HL := hid (Below.refl w.heap.size w)
  have H : ((i_alfilref14_There.f a0 a1).bind fun t496 => (if t496 = true then (if a1 = (a0.size : Int) then (some (a1, 0, 1)) else (if 0 ≤ a1 then (if a1 < (a0.size : Int) then (if (bt a0 a1.toNat) < 97 then (some (a1, 0, 2)) else (if (bt a0 a1.toNat) > 104 then (some (a1, 0, 2)) else (if (wrap64 (a1 + 1)) = (a0.size : Int) then (some (wrap64 (a1 + 1), 0, 1)) else (if a1 ≤ (wrap64 (a1 + 2)) then (if (wrap64 (a1 + 2)) ≤ (a0.size : Int) then ((i_alfilref01_Called.f k (a0.extract (a1 : Int).toNat ((wrap64 (a1 + 2)) : Int).toNat)).bind fun t497 => (if t497 < 0 then (some (wrap64 (a1 + 1), 0, 2)) else (some (wrap64 (a1 + 2), t497, 0)))) else (none)) else (none))))) else (none)) else (none))) else (some (0, 0, 5)))) = some (r1, r2, r3) := h
  clear h
  replace H := Option.bind_eq_some_iff.mp H
  obtain ⟨t496, A498_, H⟩ := H
  replace H : (if t496 = true then (if a1 = (a0.size : Int) then (some (a1, 0, 1)) else (if 0 ≤ a1 then (if a1 < (a0.size : Int) then (if (bt a0 a1.toNat) < 97 then (some (a1, 0, 2)) else (if (bt a0 a1.toNat) > 104 then (some (a1, 0, 2)) else (if (wrap64 (a1 + 1)) = (a0.size : Int) then (some (wrap64 (a1 + 1), 0, 1)) else (if a1 ≤ (wrap64 (a1 + 2)) then (if (wrap64 (a1 + 2)) ≤ (a0.size : Int) then ((i_alfilref01_Called.f k (a0.extract (a1 : Int).toNat ((wrap64 (a1 + 2)) : Int).toNat)).bind fun t497 => (if t497 < 0 then (some (wrap64 (a1 + 1), 0, 2)) else (some (wrap64 (a1 + 2), t497, 0)))) else (none)) else (none))))) else (none)) else (none))) else (some (0, 0, 5))) = some (r1, r2, r3) := H
  have A498 := hid A498_
  clear A498_
  cases t496 with
  | true =>
    rw [if_pos rfl] at H
    by_cases c500 : a1 = (a0.size : Int)
    · rw [if_pos c500] at H
      have c500b0 : (a1 == (a0.size : Int)) = true := beq_iff_eq.mpr c500
      have c500b1 : (a1 != (a0.size : Int)) = false := bne_eq_false_iff_eq.mpr c500
      have hc500 := hid c500
      clear c500
      simp only [Option.some.injEq, Prod.mk.injEq] at H
      obtain ⟨rfl, rfl, rfl⟩ := H
      go_enter Try.func20, Try.ntmps20
      have k502 := True.intro
      go_wp2_with (first
        | ((with_reducible refine gate_d (N := 4) rfl ?_); obtain ⟨gb495, hgb495⟩ : ∃ g_, w.heap.size = g_ := ⟨_, rfl⟩; refine ag_alloc aT26 gb495 hgb495 rfl rfl ?_; intro w501 hb_ hB_ hs_; have GEb495 : Hid (w.heap.size ≤ gb495) := hid (by have := HL.out.size; omega); replace HL := hid (HL.out.trans (hb_.mono GEb495.out)); have BKb495 := hid hB_; clear hb_ hB_ hs_ hgb495)
        | (go_at_call 29; clear k502; refine (i_alfilref14_There.calls a0 a1 true _ A498.out).mono ?_; rintro e_ w' ⟨rfl, rfl⟩)
        | ((with_reducible refine gate_d (N := 16) rfl ?_); refine ag_build (.agg #[.int .i64 a1, .int .i64 0, .int .i64 1]) _ rfl rfl ?_ ?_; (intro ww_; simp only [List.map_toArray, List.map_cons, List.map_nil]; kernel_rfl))
        | ((with_reducible refine gate_s (t := 26) (p := 4) rfl ?_); refine ag_store aT26 gb495 0 #[.int .i64 0, .int .i64 0, .int .i64 0] #[.int .i64 a1, .int .i64 0, .int .i64 1] #[.int .i64 a1, .int .i64 0, .int .i64 1] BKb495.out rfl (by simp) (by intro v_ hv_; simp at hv_; rcases hv_ with rfl | rfl | rfl <;> first | rfl) rfl rfl _ _ rfl rfl rfl ?_; intro w503 ho_ hB_; replace HL := hid (ho_.below HL.out GEb495.out); replace BKb495 := hid hB_; clear ho_ hB_))
      (try simp only [Act.put, List.setIfInBounds_toArray, List.set_cons_zero, List.set_cons_succ])
      refine bodyPost_ret (v := .agg #[.int .i64 a1, .int .i64 0, .int .i64 1]) (res_c aT26 rfl _ gb495 #[.int .i64 a1, .int .i64 0, .int .i64 1] BKb495.out rfl rfl) rfl ?_
      exact ⟨by first | rfl | (simp; done) | (simp [*]; done), HL.out⟩
    · rw [if_neg c500] at H
      have c500b0 : (a1 == (a0.size : Int)) = false := beq_eq_false_iff_ne.mpr c500
      have c500b1 : (a1 != (a0.size : Int)) = true := bne_iff_ne.mpr c500
      have hc500 := hid c500
      clear c500
      by_cases c504 : 0 ≤ a1
      · rw [if_pos c504] at H
        have c504b0 : decide (0 ≤ a1) = true := decide_eq_true c504
        have hc504 := hid c504
        clear c504
        by_cases c505 : a1 < (a0.size : Int)
        · rw [if_pos c505] at H
          have c505b0 : decide (a1 < (a0.size : Int)) = true := decide_eq_true c505
          have hc505 := hid c505
          clear c505
          by_cases c506 : (bt a0 a1.toNat) < 97
          · rw [if_pos c506] at H
            have c506b0 : decide ((bt a0 a1.toNat) < 97) = true := decide_eq_true c506
            have hc506 := hid c506
            clear c506
            simp only [Option.some.injEq, Prod.mk.injEq] at H
            obtain ⟨rfl, rfl, rfl⟩ := H
            go_enter Try.func20, Try.ntmps20
            have k508 := True.intro
            go_wp2_with (first
              | ((with_reducible refine gate_d (N := 4) rfl ?_); obtain ⟨gb495, hgb495⟩ : ∃ g_, w.heap.size = g_ := ⟨_, rfl⟩; refine ag_alloc aT26 gb495 hgb495 rfl rfl ?_; intro w507 hb_ hB_ hs_; have GEb495 : Hid (w.heap.size ≤ gb495) := hid (by have := HL.out.size; omega); replace HL := hid (HL.out.trans (hb_.mono GEb495.out)); have BKb495 := hid hB_; clear hb_ hB_ hs_ hgb495)
              | (go_at_call 29; clear k508; refine (i_alfilref14_There.calls a0 a1 true _ A498.out).mono ?_; rintro e_ w' ⟨rfl, rfl⟩)
              | ((with_reducible refine gate_d (N := 19) rfl ?_); refine ag_fix (.int .u8 (bt a0 a1.toNat)) (ex_ix 9 (.string a0) (.int .i64 a1) (.int .u8 (bt a0 a1.toNat)) (ix_txt a0 a1 hc504.out hc505.out) _ _ rfl rfl rfl) rfl ?_)
              | ((with_reducible refine gate_d (N := 28) rfl ?_); refine ag_build (.agg #[.int .i64 a1, .int .i64 0, .int .i64 2]) _ rfl rfl ?_ ?_; (intro ww_; simp only [List.map_toArray, List.map_cons, List.map_nil]; kernel_rfl))
              | ((with_reducible refine gate_s (t := 26) (p := 4) rfl ?_); refine ag_store aT26 gb495 0 #[.int .i64 0, .int .i64 0, .int .i64 0] #[.int .i64 a1, .int .i64 0, .int .i64 2] #[.int .i64 a1, .int .i64 0, .int .i64 2] BKb495.out rfl (by simp) (by intro v_ hv_; simp at hv_; rcases hv_ with rfl | rfl | rfl <;> first | rfl) rfl rfl _ _ rfl rfl rfl ?_; intro w509 ho_ hB_; replace HL := hid (ho_.below HL.out GEb495.out); replace BKb495 := hid hB_; clear ho_ hB_))
            (try simp only [Act.put, List.setIfInBounds_toArray, List.set_cons_zero, List.set_cons_succ])
            refine bodyPost_ret (v := .agg #[.int .i64 a1, .int .i64 0, .int .i64 2]) (res_c aT26 rfl _ gb495 #[.int .i64 a1, .int .i64 0, .int .i64 2] BKb495.out rfl rfl) rfl ?_
            exact ⟨by first | rfl | (simp; done) | (simp [*]; done), HL.out⟩
          · rw [if_neg c506] at H
            have c506b0 : decide ((bt a0 a1.toNat) < 97) = false := decide_eq_false c506
            have hc506 := hid c506
            clear c506
            by_cases c510 : (bt a0 a1.toNat) > 104
            · rw [if_pos c510] at H
              have c510b0 : decide (104 < (bt a0 a1.toNat)) = true := decide_eq_true c510
              have hc510 := hid c510
              clear c510
              simp only [Option.some.injEq, Prod.mk.injEq] at H
              obtain ⟨rfl, rfl, rfl⟩ := H
              go_enter Try.func20, Try.ntmps20
              have k512 := True.intro
              go_wp2_with (first
                | ((with_reducible refine gate_d (N := 4) rfl ?_); obtain ⟨gb495, hgb495⟩ : ∃ g_, w.heap.size = g_ := ⟨_, rfl⟩; refine ag_alloc aT26 gb495 hgb495 rfl rfl ?_; intro w511 hb_ hB_ hs_; have GEb495 : Hid (w.heap.size ≤ gb495) := hid (by have := HL.out.size; omega); replace HL := hid (HL.out.trans (hb_.mono GEb495.out)); have BKb495 := hid hB_; clear hb_ hB_ hs_ hgb495)
                | (go_at_call 29; clear k512; refine (i_alfilref14_There.calls a0 a1 true _ A498.out).mono ?_; rintro e_ w' ⟨rfl, rfl⟩)
                | ((with_reducible refine gate_d (N := 19) rfl ?_); refine ag_fix (.int .u8 (bt a0 a1.toNat)) (ex_ix 9 (.string a0) (.int .i64 a1) (.int .u8 (bt a0 a1.toNat)) (ix_txt a0 a1 hc504.out hc505.out) _ _ rfl rfl rfl) rfl ?_)
                | ((with_reducible refine gate_d (N := 24) rfl ?_); refine ag_fix (.int .u8 (bt a0 a1.toNat)) (ex_ix 9 (.string a0) (.int .i64 a1) (.int .u8 (bt a0 a1.toNat)) (ix_txt a0 a1 hc504.out hc505.out) _ _ rfl rfl rfl) rfl ?_)
                | ((with_reducible refine gate_d (N := 28) rfl ?_); refine ag_build (.agg #[.int .i64 a1, .int .i64 0, .int .i64 2]) _ rfl rfl ?_ ?_; (intro ww_; simp only [List.map_toArray, List.map_cons, List.map_nil]; kernel_rfl))
                | ((with_reducible refine gate_s (t := 26) (p := 4) rfl ?_); refine ag_store aT26 gb495 0 #[.int .i64 0, .int .i64 0, .int .i64 0] #[.int .i64 a1, .int .i64 0, .int .i64 2] #[.int .i64 a1, .int .i64 0, .int .i64 2] BKb495.out rfl (by simp) (by intro v_ hv_; simp at hv_; rcases hv_ with rfl | rfl | rfl <;> first | rfl) rfl rfl _ _ rfl rfl rfl ?_; intro w513 ho_ hB_; replace HL := hid (ho_.below HL.out GEb495.out); replace BKb495 := hid hB_; clear ho_ hB_))
              (try simp only [Act.put, List.setIfInBounds_toArray, List.set_cons_zero, List.set_cons_succ])
              refine bodyPost_ret (v := .agg #[.int .i64 a1, .int .i64 0, .int .i64 2]) (res_c aT26 rfl _ gb495 #[.int .i64 a1, .int .i64 0, .int .i64 2] BKb495.out rfl rfl) rfl ?_
              exact ⟨by first | rfl | (simp; done) | (simp [*]; done), HL.out⟩
            · rw [if_neg c510] at H
              have c510b0 : decide (104 < (bt a0 a1.toNat)) = false := decide_eq_false c510
              have hc510 := hid c510
              clear c510
              by_cases c514 : (wrap64 (a1 + 1)) = (a0.size : Int)
              · rw [if_pos c514] at H
                have c514b0 : ((wrap64 (a1 + 1)) == (a0.size : Int)) = true := beq_iff_eq.mpr c514
                have c514b1 : ((wrap64 (a1 + 1)) != (a0.size : Int)) = false := bne_eq_false_iff_eq.mpr c514
                have hc514 := hid c514
                clear c514
                simp only [Option.some.injEq, Prod.mk.injEq] at H
                obtain ⟨rfl, rfl, rfl⟩ := H
                go_enter Try.func20, Try.ntmps20
                have k516 := True.intro
                go_wp2_with (first
                  | ((with_reducible refine gate_d (N := 4) rfl ?_); obtain ⟨gb495, hgb495⟩ : ∃ g_, w.heap.size = g_ := ⟨_, rfl⟩; refine ag_alloc aT26 gb495 hgb495 rfl rfl ?_; intro w515 hb_ hB_ hs_; have GEb495 : Hid (w.heap.size ≤ gb495) := hid (by have := HL.out.size; omega); replace HL := hid (HL.out.trans (hb_.mono GEb495.out)); have BKb495 := hid hB_; clear hb_ hB_ hs_ hgb495)
                  | (go_at_call 29; clear k516; refine (i_alfilref14_There.calls a0 a1 true _ A498.out).mono ?_; rintro e_ w' ⟨rfl, rfl⟩)
                  | ((with_reducible refine gate_d (N := 19) rfl ?_); refine ag_fix (.int .u8 (bt a0 a1.toNat)) (ex_ix 9 (.string a0) (.int .i64 a1) (.int .u8 (bt a0 a1.toNat)) (ix_txt a0 a1 hc504.out hc505.out) _ _ rfl rfl rfl) rfl ?_)
                  | ((with_reducible refine gate_d (N := 24) rfl ?_); refine ag_fix (.int .u8 (bt a0 a1.toNat)) (ex_ix 9 (.string a0) (.int .i64 a1) (.int .u8 (bt a0 a1.toNat)) (ix_txt a0 a1 hc504.out hc505.out) _ _ rfl rfl rfl) rfl ?_)
                  | ((with_reducible refine gate_d (N := 36) rfl ?_); refine ag_build (.agg #[.int .i64 (wrap64 (a1 + 1)), .int .i64 0, .int .i64 1]) _ rfl rfl ?_ ?_; (intro ww_; simp only [List.map_toArray, List.map_cons, List.map_nil]; kernel_rfl))
                  | ((with_reducible refine gate_s (t := 26) (p := 4) rfl ?_); refine ag_store aT26 gb495 0 #[.int .i64 0, .int .i64 0, .int .i64 0] #[.int .i64 (wrap64 (a1 + 1)), .int .i64 0, .int .i64 1] #[.int .i64 (wrap64 (a1 + 1)), .int .i64 0, .int .i64 1] BKb495.out rfl (by simp) (by intro v_ hv_; simp at hv_; rcases hv_ with rfl | rfl | rfl <;> first | rfl) rfl rfl _ _ rfl rfl rfl ?_; intro w517 ho_ hB_; replace HL := hid (ho_.below HL.out GEb495.out); replace BKb495 := hid hB_; clear ho_ hB_))
                (try simp only [Act.put, List.setIfInBounds_toArray, List.set_cons_zero, List.set_cons_succ])
                refine bodyPost_ret (v := .agg #[.int .i64 (wrap64 (a1 + 1)), .int .i64 0, .int .i64 1]) (res_c aT26 rfl _ gb495 #[.int .i64 (wrap64 (a1 + 1)), .int .i64 0, .int .i64 1] BKb495.out rfl rfl) rfl ?_
                exact ⟨by first | rfl | (simp; done) | (simp [*]; done), HL.out⟩
              · rw [if_neg c514] at H
                have c514b0 : ((wrap64 (a1 + 1)) == (a0.size : Int)) = false := beq_eq_false_iff_ne.mpr c514
                have c514b1 : ((wrap64 (a1 + 1)) != (a0.size : Int)) = true := bne_iff_ne.mpr c514
                have hc514 := hid c514
                clear c514
                by_cases c518 : a1 ≤ (wrap64 (a1 + 2))
                · rw [if_pos c518] at H
                  have c518b0 : decide (a1 ≤ (wrap64 (a1 + 2))) = true := decide_eq_true c518
                  have hc518 := hid c518
                  clear c518
                  by_cases c519 : (wrap64 (a1 + 2)) ≤ (a0.size : Int)
                  · rw [if_pos c519] at H
                    have c519b0 : decide ((wrap64 (a1 + 2)) ≤ (a0.size : Int)) = true := decide_eq_true c519
                    have hc519 := hid c519
                    clear c519
                    replace H := Option.bind_eq_some_iff.mp H
                    obtain ⟨t497, A520_, H⟩ := H
                    replace H : (if t497 < 0 then (some (wrap64 (a1 + 1), 0, 2)) else (some (wrap64 (a1 + 2), t497, 0))) = some (r1, r2, r3) := H
                    have A520 := hid A520_
                    clear A520_
                    by_cases c521 : t497 < 0
                    · rw [if_pos c521] at H
                      have c521b0 : decide (t497 < 0) = true := decide_eq_true c521
                      have hc521 := hid c521
                      clear c521
                      simp only [Option.some.injEq, Prod.mk.injEq] at H
                      obtain ⟨rfl, rfl, rfl⟩ := H
                      go_enter Try.func20, Try.ntmps20
                      have k523 := True.intro
                      have k524 := True.intro
                      go_wp2_with (first
                        | ((with_reducible refine gate_d (N := 4) rfl ?_); obtain ⟨gb495, hgb495⟩ : ∃ g_, w.heap.size = g_ := ⟨_, rfl⟩; refine ag_alloc aT26 gb495 hgb495 rfl rfl ?_; intro w522 hb_ hB_ hs_; have GEb495 : Hid (w.heap.size ≤ gb495) := hid (by have := HL.out.size; omega); replace HL := hid (HL.out.trans (hb_.mono GEb495.out)); have BKb495 := hid hB_; clear hb_ hB_ hs_ hgb495)
                        | (go_at_call 29; clear k523; refine (i_alfilref14_There.calls a0 a1 true _ A498.out).mono ?_; rintro e_ w' ⟨rfl, rfl⟩)
                        | ((with_reducible refine gate_d (N := 19) rfl ?_); refine ag_fix (.int .u8 (bt a0 a1.toNat)) (ex_ix 9 (.string a0) (.int .i64 a1) (.int .u8 (bt a0 a1.toNat)) (ix_txt a0 a1 hc504.out hc505.out) _ _ rfl rfl rfl) rfl ?_)
                        | ((with_reducible refine gate_d (N := 24) rfl ?_); refine ag_fix (.int .u8 (bt a0 a1.toNat)) (ex_ix 9 (.string a0) (.int .i64 a1) (.int .u8 (bt a0 a1.toNat)) (ix_txt a0 a1 hc504.out hc505.out) _ _ rfl rfl rfl) rfl ?_)
                        | ((with_reducible refine gate_d (N := 41) rfl ?_); refine ag_fix (.string (a0.extract (a1 : Int).toNat ((wrap64 (a1 + 2)) : Int).toNat)) (ex_cut_lh 9 und_txt a0 a1 (wrap64 (a1 + 2)) hc504.out hc518.out hc519.out _ _ _ rfl rfl rfl rfl) rfl ?_)
                        | (go_at_call 35; clear k524; refine (i_alfilref01_Called.calls k (a0.extract (a1 : Int).toNat ((wrap64 (a1 + 2)) : Int).toNat) t497 _ A520.out).mono ?_; rintro e_ w525 ⟨rfl, hb_⟩; replace BKb495 := hid (BKb495.out.below hb_ BKb495.out.lt); replace HL := hid (HL.out.trans (hb_.mono HL.out.size)); clear hb_)
                        | ((with_reducible refine gate_d (N := 47) rfl ?_); refine ag_build (.agg #[.int .i64 (wrap64 (a1 + 1)), .int .i64 0, .int .i64 2]) _ rfl rfl ?_ ?_; (intro ww_; simp only [List.map_toArray, List.map_cons, List.map_nil]; kernel_rfl))
                        | ((with_reducible refine gate_s (t := 26) (p := 4) rfl ?_); refine ag_store aT26 gb495 0 #[.int .i64 0, .int .i64 0, .int .i64 0] #[.int .i64 (wrap64 (a1 + 1)), .int .i64 0, .int .i64 2] #[.int .i64 (wrap64 (a1 + 1)), .int .i64 0, .int .i64 2] BKb495.out rfl (by simp) (by intro v_ hv_; simp at hv_; rcases hv_ with rfl | rfl | rfl <;> first | rfl) rfl rfl _ _ rfl rfl rfl ?_; intro w526 ho_ hB_; replace HL := hid (ho_.below HL.out GEb495.out); replace BKb495 := hid hB_; clear ho_ hB_))
                      (try simp only [Act.put, List.setIfInBounds_toArray, List.set_cons_zero, List.set_cons_succ])
                      refine bodyPost_ret (v := .agg #[.int .i64 (wrap64 (a1 + 1)), .int .i64 0, .int .i64 2]) (res_c aT26 rfl _ gb495 #[.int .i64 (wrap64 (a1 + 1)), .int .i64 0, .int .i64 2] BKb495.out rfl rfl) rfl ?_
                      exact ⟨by first | rfl | (simp; done) | (simp [*]; done), HL.out⟩
                    · rw [if_neg c521] at H
                      have c521b0 : decide (t497 < 0) = false := decide_eq_false c521
                      have hc521 := hid c521
                      clear c521
                      simp only [Option.some.injEq, Prod.mk.injEq] at H
                      obtain ⟨rfl, rfl, rfl⟩ := H
                      go_enter Try.func20, Try.ntmps20
                      have k528 := True.intro
                      have k529 := True.intro
                      go_wp2_with (first
                        | ((with_reducible refine gate_d (N := 4) rfl ?_); obtain ⟨gb495, hgb495⟩ : ∃ g_, w.heap.size = g_ := ⟨_, rfl⟩; refine ag_alloc aT26 gb495 hgb495 rfl rfl ?_; intro w527 hb_ hB_ hs_; have GEb495 : Hid (w.heap.size ≤ gb495) := hid (by have := HL.out.size; omega); replace HL := hid (HL.out.trans (hb_.mono GEb495.out)); have BKb495 := hid hB_; clear hb_ hB_ hs_ hgb495)
                        | (go_at_call 29; clear k528; refine (i_alfilref14_There.calls a0 a1 true _ A498.out).mono ?_; rintro e_ w' ⟨rfl, rfl⟩)
                        | ((with_reducible refine gate_d (N := 19) rfl ?_); refine ag_fix (.int .u8 (bt a0 a1.toNat)) (ex_ix 9 (.string a0) (.int .i64 a1) (.int .u8 (bt a0 a1.toNat)) (ix_txt a0 a1 hc504.out hc505.out) _ _ rfl rfl rfl) rfl ?_)
                        | ((with_reducible refine gate_d (N := 24) rfl ?_); refine ag_fix (.int .u8 (bt a0 a1.toNat)) (ex_ix 9 (.string a0) (.int .i64 a1) (.int .u8 (bt a0 a1.toNat)) (ix_txt a0 a1 hc504.out hc505.out) _ _ rfl rfl rfl) rfl ?_)
                        | ((with_reducible refine gate_d (N := 41) rfl ?_); refine ag_fix (.string (a0.extract (a1 : Int).toNat ((wrap64 (a1 + 2)) : Int).toNat)) (ex_cut_lh 9 und_txt a0 a1 (wrap64 (a1 + 2)) hc504.out hc518.out hc519.out _ _ _ rfl rfl rfl rfl) rfl ?_)
                        | (go_at_call 35; clear k529; refine (i_alfilref01_Called.calls k (a0.extract (a1 : Int).toNat ((wrap64 (a1 + 2)) : Int).toNat) t497 _ A520.out).mono ?_; rintro e_ w530 ⟨rfl, hb_⟩; replace BKb495 := hid (BKb495.out.below hb_ BKb495.out.lt); replace HL := hid (HL.out.trans (hb_.mono HL.out.size)); clear hb_)
                        | ((with_reducible refine gate_d (N := 51) rfl ?_); refine ag_build (.agg #[.int .i64 (wrap64 (a1 + 2)), .int .i64 t497, .int .i64 0]) _ rfl rfl ?_ ?_; (intro ww_; simp only [List.map_toArray, List.map_cons, List.map_nil]; kernel_rfl))
                        | ((with_reducible refine gate_s (t := 26) (p := 4) rfl ?_); refine ag_store aT26 gb495 0 #[.int .i64 0, .int .i64 0, .int .i64 0] #[.int .i64 (wrap64 (a1 + 2)), .int .i64 t497, .int .i64 0] #[.int .i64 (wrap64 (a1 + 2)), .int .i64 t497, .int .i64 0] BKb495.out rfl (by simp) (by intro v_ hv_; simp at hv_; rcases hv_ with rfl | rfl | rfl <;> first | rfl) rfl rfl _ _ rfl rfl rfl ?_; intro w531 ho_ hB_; replace HL := hid (ho_.below HL.out GEb495.out); replace BKb495 := hid hB_; clear ho_ hB_))
                      (try simp only [Act.put, List.setIfInBounds_toArray, List.set_cons_zero, List.set_cons_succ])
                      refine bodyPost_ret (v := .agg #[.int .i64 (wrap64 (a1 + 2)), .int .i64 t497, .int .i64 0]) (res_c aT26 rfl _ gb495 #[.int .i64 (wrap64 (a1 + 2)), .int .i64 t497, .int .i64 0] BKb495.out rfl rfl) rfl ?_
                      exact ⟨by first | rfl | (simp; done) | (simp [*]; done), HL.out⟩
                  · rw [if_neg c519] at H
                    exact absurd H (by simp)
                · rw [if_neg c518] at H
                  exact absurd H (by simp)
        · rw [if_neg c505] at H
          exact absurd H (by simp)
      · rw [if_neg c504] at H
        exact absurd H (by simp)
  | false =>
    rw [if_neg (show ¬ (false = true) by decide)] at H
    simp only [Option.some.injEq, Prod.mk.injEq] at H
    obtain ⟨rfl, rfl, rfl⟩ := H
    go_enter Try.func20, Try.ntmps20
    have k533 := True.intro
    go_wp2_with (first
      | ((with_reducible refine gate_d (N := 4) rfl ?_); obtain ⟨gb495, hgb495⟩ : ∃ g_, w.heap.size = g_ := ⟨_, rfl⟩; refine ag_alloc aT26 gb495 hgb495 rfl rfl ?_; intro w532 hb_ hB_ hs_; have GEb495 : Hid (w.heap.size ≤ gb495) := hid (by have := HL.out.size; omega); replace HL := hid (HL.out.trans (hb_.mono GEb495.out)); have BKb495 := hid hB_; clear hb_ hB_ hs_ hgb495)
      | (go_at_call 29; clear k533; refine (i_alfilref14_There.calls a0 a1 false _ A498.out).mono ?_; rintro e_ w' ⟨rfl, rfl⟩)
      | ((with_reducible refine gate_d (N := 10) rfl ?_); refine ag_build (.agg #[.int .i64 0, .int .i64 0, .int .i64 5]) _ rfl rfl ?_ ?_; (intro ww_; simp only [List.map_toArray, List.map_cons, List.map_nil]; kernel_rfl))
      | ((with_reducible refine gate_s (t := 26) (p := 4) rfl ?_); refine ag_store aT26 gb495 0 #[.int .i64 0, .int .i64 0, .int .i64 0] #[.int .i64 0, .int .i64 0, .int .i64 5] #[.int .i64 0, .int .i64 0, .int .i64 5] BKb495.out rfl (by simp) (by intro v_ hv_; simp at hv_; rcases hv_ with rfl | rfl | rfl <;> first | rfl) rfl rfl _ _ rfl rfl rfl ?_; intro w534 ho_ hB_; replace HL := hid (ho_.below HL.out GEb495.out); replace BKb495 := hid hB_; clear ho_ hB_))
    (try simp only [Act.put, List.setIfInBounds_toArray, List.set_cons_zero, List.set_cons_succ])
    refine bodyPost_ret (v := .agg #[.int .i64 0, .int .i64 0, .int .i64 5]) (res_c aT26 rfl _ gb495 #[.int .i64 0, .int .i64 0, .int .i64 5] BKb495.out rfl rfl) rfl ?_
    exact ⟨by first | rfl | (simp; done) | (simp [*]; done), HL.out⟩
/-! i_alfilref14_Read: function 18 -/
def i_alfilref14_Read.l0 : Nat → ByteArray → Int → Int → Option (ByteArray × Int × Int × Int)
  | 0, _, _, _ => none
  | k + 1, a0, a1, x5_0 => if x5_0 < (a0.size : Int) then (if 0 ≤ x5_0 then (if (bt a0 x5_0.toNat) = 10 then (if 0 ≤ a1 then (if a1 ≤ x5_0 then (if x5_0 ≤ (a0.size : Int) then (some (a0.extract (a1 : Int).toNat (x5_0 : Int).toNat, wrap64 (x5_0 + 1), 0, 0)) else (none)) else (none)) else (none)) else (i_alfilref14_Read.l0 k a0 a1 (wrap64 (x5_0 + 1)))) else (none)) else (if 0 ≤ a1 then (if a1 ≤ (a0.size : Int) then (some (a0.extract (a1 : Int).toNat a0.size, (a0.size : Int), 0, 1)) else (none)) else (none))
def i_alfilref14_Read.f (k : Nat) (a0 : ByteArray) (a1 : Int) : Option (ByteArray × Int × Int × Int) := (i_alfilref14_There.f a0 a1).bind fun t536 => (if t536 = true then (i_alfilref14_Read.l0 k a0 a1 a1) else (some ((⟨#[]⟩ : ByteArray), 0, 0, 5)))
set_option maxHeartbeats 40000000 in
set_option maxRecDepth 100000 in
theorem i_alfilref14_Read.calls (k : Nat) (a0 : ByteArray) (a1 : Int) (r1 : ByteArray) (r2 : Int) (r3 : Int) (r4 : Int) (w : World) (h : i_alfilref14_Read.f k a0 a1 = some (r1, r2, r3, r4)) :
    Calls Try.prog 18 #[.string a0, .int .i64 a1] w fun e w' => e = .returned (.agg #[.string r1, .int .i64 r2, .int .i64 r3, .int .i64 r4]) ∧ Below w.heap.size w w' := by
  have HL := hid (Below.refl w.heap.size w)
  have H : ((i_alfilref14_There.f a0 a1).bind fun t536 => (if t536 = true then (i_alfilref14_Read.l0 k a0 a1 a1) else (some ((⟨#[]⟩ : ByteArray), 0, 0, 5)))) = some (r1, r2, r3, r4) := h
  clear h
  replace H := Option.bind_eq_some_iff.mp H
  obtain ⟨t536, A537_, H⟩ := H
  replace H : (if t536 = true then (i_alfilref14_Read.l0 k a0 a1 a1) else (some ((⟨#[]⟩ : ByteArray), 0, 0, 5))) = some (r1, r2, r3, r4) := H
  have A537 := hid A537_
  clear A537_
  cases t536 with
  | true =>
    rw [if_pos rfl] at H
    have H' := hid H
    clear H
    go_enter Try.func18, Try.ntmps18
    have k540 := True.intro
    go_wp2_with (first
      | ((with_reducible refine gate_d (N := 4) rfl ?_); obtain ⟨gb535, hgb535⟩ : ∃ g_, w.heap.size = g_ := ⟨_, rfl⟩; refine ag_alloc aT38 gb535 hgb535 rfl rfl ?_; intro w539 hb_ hB_ hs_; have GEb535 : Hid (w.heap.size ≤ gb535) := hid (by have := HL.out.size; omega); replace HL := hid (HL.out.trans (hb_.mono GEb535.out)); have BKb535 := hid hB_; clear hb_ hB_ hs_ hgb535)
      | (go_at_call 29; clear k540; refine (i_alfilref14_There.calls a0 a1 true _ A537.out).mono ?_; rintro e_ w' ⟨rfl, rfl⟩))
    (try simp only [Act.put, List.setIfInBounds_toArray, List.set_cons_zero, List.set_cons_succ])
    go_loopg [5] k (fun kq v5 w' => ∃ (x5_0 : Int), v5 = .int .i64 x5_0 ∧ Hid (i_alfilref14_Read.l0 kq a0 a1 x5_0 = some (r1, r2, r3, r4)) ∧ Hid (kq ≤ k) ∧ Hid (Blk w' gb535 38 #[.string (⟨#[]⟩ : ByteArray), .int .i64 0, .int .i64 0, .int .i64 0]) ∧ Hid (Below w.heap.size w w'))
    case atStart => exact ⟨a1, (by first | rfl | (simp; done) | (simp [*]; done)), H', (hid (by first | omega | (omega))), (hid (by exact BKb535.out)), HL⟩
    case round =>
      clear H'
      clear HL BKb535
      obtain ⟨x5_0, rfl, HA, HK541, BKb535, HL⟩ := hrel
      cases gk with
      | zero => exact absurd HA.out (by simp [i_alfilref14_Read.l0])
      | succ k542 =>
        have H := HA.out
        clear HA
        simp only [i_alfilref14_Read.l0] at H
        by_cases c543 : x5_0 < (a0.size : Int)
        · rw [if_pos c543] at H
          have c543b0 : decide (x5_0 < (a0.size : Int)) = true := decide_eq_true c543
          have hc543 := hid c543
          clear c543
          by_cases c544 : 0 ≤ x5_0
          · rw [if_pos c544] at H
            have c544b0 : decide (0 ≤ x5_0) = true := decide_eq_true c544
            have hc544 := hid c544
            clear c544
            by_cases c545 : (bt a0 x5_0.toNat) = 10
            · rw [if_pos c545] at H
              have c545b0 : ((bt a0 x5_0.toNat) == 10) = true := beq_iff_eq.mpr c545
              have c545b1 : ((bt a0 x5_0.toNat) != 10) = false := bne_eq_false_iff_eq.mpr c545
              have hc545 := hid c545
              clear c545
              by_cases c546 : 0 ≤ a1
              · rw [if_pos c546] at H
                have c546b0 : decide (0 ≤ a1) = true := decide_eq_true c546
                have hc546 := hid c546
                clear c546
                by_cases c547 : a1 ≤ x5_0
                · rw [if_pos c547] at H
                  have c547b0 : decide (a1 ≤ x5_0) = true := decide_eq_true c547
                  have hc547 := hid c547
                  clear c547
                  by_cases c548 : x5_0 ≤ (a0.size : Int)
                  · rw [if_pos c548] at H
                    have c548b0 : decide (x5_0 ≤ (a0.size : Int)) = true := decide_eq_true c548
                    have hc548 := hid c548
                    clear c548
                    simp only [Option.some.injEq, Prod.mk.injEq] at H
                    obtain ⟨rfl, rfl, rfl, rfl⟩ := H
                    go_wp2_with (first
                      | ((with_reducible refine gate_d (N := 21) rfl ?_); refine ag_fix (.int .u8 (bt a0 x5_0.toNat)) (ex_ix 9 (.string a0) (.int .i64 x5_0) (.int .u8 (bt a0 x5_0.toNat)) (ix_txt a0 x5_0 hc544.out hc543.out) _ _ rfl rfl rfl) rfl ?_)
                      | ((with_reducible refine gate_d (N := 26) rfl ?_); refine ag_fix (.string (a0.extract (a1 : Int).toNat (x5_0 : Int).toNat)) (ex_cut_lh 9 und_txt a0 a1 x5_0 hc546.out hc547.out hc548.out _ _ _ rfl rfl rfl rfl) rfl ?_)
                      | ((with_reducible refine gate_d (N := 29) rfl ?_); refine ag_build (.agg #[.int .i64 (wrap64 (x5_0 + 1)), .int .i64 0, .int .i64 0]) _ rfl rfl ?_ ?_; (intro ww_; simp only [List.map_toArray, List.map_cons, List.map_nil]; kernel_rfl))
                      | ((with_reducible refine gate_d (N := 30) rfl ?_); refine ag_build (.agg #[.string (a0.extract (a1 : Int).toNat (x5_0 : Int).toNat), .int .i64 (wrap64 (x5_0 + 1)), .int .i64 0, .int .i64 0]) _ rfl rfl ?_ ?_; (intro ww_; simp only [List.map_toArray, List.map_cons, List.map_nil]; kernel_rfl))
                      | ((with_reducible refine gate_s (t := 38) (p := 4) rfl ?_); refine ag_store aT38 gb535 0 #[.string (⟨#[]⟩ : ByteArray), .int .i64 0, .int .i64 0, .int .i64 0] #[.string (a0.extract (a1 : Int).toNat (x5_0 : Int).toNat), .int .i64 (wrap64 (x5_0 + 1)), .int .i64 0, .int .i64 0] #[.string (a0.extract (a1 : Int).toNat (x5_0 : Int).toNat), .int .i64 (wrap64 (x5_0 + 1)), .int .i64 0, .int .i64 0] BKb535.out rfl (by simp) (by intro v_ hv_; simp at hv_; rcases hv_ with rfl | rfl | rfl | rfl <;> first | rfl) rfl rfl _ _ rfl rfl rfl ?_; intro w549 ho_ hB_; replace HL := hid (ho_.below HL.out GEb535.out); replace BKb535 := hid hB_; clear ho_ hB_))
                    (try simp only [Act.put, List.setIfInBounds_toArray, List.set_cons_zero, List.set_cons_succ])
                    refine bodyPost_ret (v := .agg #[.string (a0.extract (a1 : Int).toNat (x5_0 : Int).toNat), .int .i64 (wrap64 (x5_0 + 1)), .int .i64 0, .int .i64 0]) (res_c aT38 rfl _ gb535 #[.string (a0.extract (a1 : Int).toNat (x5_0 : Int).toNat), .int .i64 (wrap64 (x5_0 + 1)), .int .i64 0, .int .i64 0] BKb535.out rfl rfl) rfl ?_
                    exact ⟨by first | rfl | (simp; done) | (simp [*]; done), HL.out⟩
                  · rw [if_neg c548] at H
                    exact absurd H (by simp)
                · rw [if_neg c547] at H
                  exact absurd H (by simp)
              · rw [if_neg c546] at H
                exact absurd H (by simp)
            · rw [if_neg c545] at H
              have c545b0 : ((bt a0 x5_0.toNat) == 10) = false := beq_eq_false_iff_ne.mpr c545
              have c545b1 : ((bt a0 x5_0.toNat) != 10) = true := bne_iff_ne.mpr c545
              have hc545 := hid c545
              clear c545
              have H' := hid H
              clear H
              go_wp2_with (first
                | ((with_reducible refine gate_d (N := 21) rfl ?_); refine ag_fix (.int .u8 (bt a0 x5_0.toNat)) (ex_ix 9 (.string a0) (.int .i64 x5_0) (.int .u8 (bt a0 x5_0.toNat)) (ix_txt a0 x5_0 hc544.out hc543.out) _ _ rfl rfl rfl) rfl ?_))
              (try simp only [Act.put, List.setIfInBounds_toArray, List.set_cons_zero, List.set_cons_succ])
              go_roundg k542
              case measure => have := HK541.out; omega
              case rel => exact ⟨wrap64 (x5_0 + 1), (by first | rfl | (simp; done) | (simp [*]; done)), H', (hid (by first | omega | (have := HK541.out; omega))), (hid (by exact BKb535.out)), HL⟩
          · rw [if_neg c544] at H
            exact absurd H (by simp)
        · rw [if_neg c543] at H
          have c543b0 : decide (x5_0 < (a0.size : Int)) = false := decide_eq_false c543
          have hc543 := hid c543
          clear c543
          by_cases c550 : 0 ≤ a1
          · rw [if_pos c550] at H
            have c550b0 : decide (0 ≤ a1) = true := decide_eq_true c550
            have hc550 := hid c550
            clear c550
            by_cases c551 : a1 ≤ (a0.size : Int)
            · rw [if_pos c551] at H
              have c551b0 : decide (a1 ≤ (a0.size : Int)) = true := decide_eq_true c551
              have hc551 := hid c551
              clear c551
              simp only [Option.some.injEq, Prod.mk.injEq] at H
              obtain ⟨rfl, rfl, rfl, rfl⟩ := H
              go_wp2_with (first
                | ((with_reducible refine gate_d (N := 33) rfl ?_); refine ag_fix (.string (a0.extract (a1 : Int).toNat a0.size)) (ex_cut_l 9 und_txt a0 a1  hc550.out hc551.out _ _ rfl rfl rfl) rfl ?_)
                | ((with_reducible refine gate_d (N := 36) rfl ?_); refine ag_build (.agg #[.int .i64 (a0.size : Int), .int .i64 0, .int .i64 1]) _ rfl rfl ?_ ?_; (intro ww_; simp only [List.map_toArray, List.map_cons, List.map_nil]; kernel_rfl))
                | ((with_reducible refine gate_d (N := 37) rfl ?_); refine ag_build (.agg #[.string (a0.extract (a1 : Int).toNat a0.size), .int .i64 (a0.size : Int), .int .i64 0, .int .i64 1]) _ rfl rfl ?_ ?_; (intro ww_; simp only [List.map_toArray, List.map_cons, List.map_nil]; kernel_rfl))
                | ((with_reducible refine gate_s (t := 38) (p := 4) rfl ?_); refine ag_store aT38 gb535 0 #[.string (⟨#[]⟩ : ByteArray), .int .i64 0, .int .i64 0, .int .i64 0] #[.string (a0.extract (a1 : Int).toNat a0.size), .int .i64 (a0.size : Int), .int .i64 0, .int .i64 1] #[.string (a0.extract (a1 : Int).toNat a0.size), .int .i64 (a0.size : Int), .int .i64 0, .int .i64 1] BKb535.out rfl (by simp) (by intro v_ hv_; simp at hv_; rcases hv_ with rfl | rfl | rfl | rfl <;> first | rfl) rfl rfl _ _ rfl rfl rfl ?_; intro w552 ho_ hB_; replace HL := hid (ho_.below HL.out GEb535.out); replace BKb535 := hid hB_; clear ho_ hB_))
              (try simp only [Act.put, List.setIfInBounds_toArray, List.set_cons_zero, List.set_cons_succ])
              refine bodyPost_ret (v := .agg #[.string (a0.extract (a1 : Int).toNat a0.size), .int .i64 (a0.size : Int), .int .i64 0, .int .i64 1]) (res_c aT38 rfl _ gb535 #[.string (a0.extract (a1 : Int).toNat a0.size), .int .i64 (a0.size : Int), .int .i64 0, .int .i64 1] BKb535.out rfl rfl) rfl ?_
              exact ⟨by first | rfl | (simp; done) | (simp [*]; done), HL.out⟩
            · rw [if_neg c551] at H
              exact absurd H (by simp)
          · rw [if_neg c550] at H
            exact absurd H (by simp)
  | false =>
    rw [if_neg (show ¬ (false = true) by decide)] at H
    simp only [Option.some.injEq, Prod.mk.injEq] at H
    obtain ⟨rfl, rfl, rfl, rfl⟩ := H
    go_enter Try.func18, Try.ntmps18
    have k554 := True.intro
    go_wp2_with (first
      | ((with_reducible refine gate_d (N := 4) rfl ?_); obtain ⟨gb535, hgb535⟩ : ∃ g_, w.heap.size = g_ := ⟨_, rfl⟩; refine ag_alloc aT38 gb535 hgb535 rfl rfl ?_; intro w553 hb_ hB_ hs_; have GEb535 : Hid (w.heap.size ≤ gb535) := hid (by have := HL.out.size; omega); replace HL := hid (HL.out.trans (hb_.mono GEb535.out)); have BKb535 := hid hB_; clear hb_ hB_ hs_ hgb535)
      | (go_at_call 29; clear k554; refine (i_alfilref14_There.calls a0 a1 false _ A537.out).mono ?_; rintro e_ w' ⟨rfl, rfl⟩)
      | ((with_reducible refine gate_d (N := 10) rfl ?_); refine ag_build (.agg #[.int .i64 0, .int .i64 0, .int .i64 5]) _ rfl rfl ?_ ?_; (intro ww_; simp only [List.map_toArray, List.map_cons, List.map_nil]; kernel_rfl))
      | ((with_reducible refine gate_d (N := 11) rfl ?_); refine ag_build (.agg #[.string (⟨#[]⟩ : ByteArray), .int .i64 0, .int .i64 0, .int .i64 5]) _ rfl rfl ?_ ?_; (intro ww_; simp only [List.map_toArray, List.map_cons, List.map_nil]; kernel_rfl))
      | ((with_reducible refine gate_s (t := 38) (p := 4) rfl ?_); refine ag_store aT38 gb535 0 #[.string (⟨#[]⟩ : ByteArray), .int .i64 0, .int .i64 0, .int .i64 0] #[.string (⟨#[]⟩ : ByteArray), .int .i64 0, .int .i64 0, .int .i64 5] #[.string (⟨#[]⟩ : ByteArray), .int .i64 0, .int .i64 0, .int .i64 5] BKb535.out rfl (by simp) (by intro v_ hv_; simp at hv_; rcases hv_ with rfl | rfl | rfl | rfl <;> first | rfl) rfl rfl _ _ rfl rfl rfl ?_; intro w555 ho_ hB_; replace HL := hid (ho_.below HL.out GEb535.out); replace BKb535 := hid hB_; clear ho_ hB_))
    (try simp only [Act.put, List.setIfInBounds_toArray, List.set_cons_zero, List.set_cons_succ])
    refine bodyPost_ret (v := .agg #[.string (⟨#[]⟩ : ByteArray), .int .i64 0, .int .i64 0, .int .i64 5]) (res_c aT38 rfl _ gb535 #[.string (⟨#[]⟩ : ByteArray), .int .i64 0, .int .i64 0, .int .i64 5] BKb535.out rfl rfl) rfl ?_
    exact ⟨by first | rfl | (simp; done) | (simp [*]; done), HL.out⟩
end Go.Proofs.Ytabbkeliknidgaa
