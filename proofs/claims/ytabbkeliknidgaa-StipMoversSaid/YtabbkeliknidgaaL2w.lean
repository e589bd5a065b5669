/- The walks of package lex: numbers. -/
import Derived.Test.YtabbkeliknidgaaProg
import Derived.Test.YtabbkeliknidgaaL1w
namespace Go.Proofs.Ytabbkeliknidgaa
open Go.RowKit
set_option linter.unusedVariables false
set_option linter.unusedSimpArgs false

/-! i_lex_Number: function 14 -/
def i_lex_Number.l0 : Nat → ByteArray → Int → Int → Int → Int → Int → Nat → Option (Int × Int × Int)
  | 0, _, _, _, _, _, _, _ => none
  | k + 1, a0, a1, a2, a3, x9_0, x10_0, yb344_0_0 => if yb344_0_0 < (a0.extract (a1 : Int).toNat a0.size).size then (if ((Utf8.decode (a0.extract (a1 : Int).toNat a0.size) yb344_0_0).1 : Int) < 48 then (if (wrap64 (a1 + (yb344_0_0 : Int))) > a1 then (if x9_0 ≥ a2 then (some (wrap64 (a1 + (yb344_0_0 : Int)), x9_0, 0)) else (if (wrap64 (a1 + (yb344_0_0 : Int))) = (a0.size : Int) then (some (wrap64 (a1 + (yb344_0_0 : Int)), 0, 1)) else (some (wrap64 (a1 + (yb344_0_0 : Int)), 0, 2)))) else (if (wrap64 (a1 + (yb344_0_0 : Int))) = (a0.size : Int) then (some (wrap64 (a1 + (yb344_0_0 : Int)), 0, 1)) else (some (wrap64 (a1 + (yb344_0_0 : Int)), 0, 2)))) else (if ((Utf8.decode (a0.extract (a1 : Int).toNat a0.size) yb344_0_0).1 : Int) > 57 then (if (wrap64 (a1 + (yb344_0_0 : Int))) > a1 then (if x9_0 ≥ a2 then (some (wrap64 (a1 + (yb344_0_0 : Int)), x9_0, 0)) else (if (wrap64 (a1 + (yb344_0_0 : Int))) = (a0.size : Int) then (some (wrap64 (a1 + (yb344_0_0 : Int)), 0, 1)) else (some (wrap64 (a1 + (yb344_0_0 : Int)), 0, 2)))) else (if (wrap64 (a1 + (yb344_0_0 : Int))) = (a0.size : Int) then (some (wrap64 (a1 + (yb344_0_0 : Int)), 0, 1)) else (some (wrap64 (a1 + (yb344_0_0 : Int)), 0, 2)))) else (if (yb344_0_0 : Int) > 0 then (if x9_0 = 0 then (some (wrap64 (a1 + (yb344_0_0 : Int)), 0, 2)) else (if (yb344_0_0 : Int) = 0 then (if 1 < a2 then (if (wrap64 ((wrap64 (10 * x9_0)) + (wrap64 (wrap32 (((Utf8.decode (a0.extract (a1 : Int).toNat a0.size) yb344_0_0).1 : Int) - 48))))) < 1 then (some (wrap64 (a1 + (yb344_0_0 : Int)), 0, 2)) else (if (wrap64 ((wrap64 (10 * x9_0)) + (wrap64 (wrap32 (((Utf8.decode (a0.extract (a1 : Int).toNat a0.size) yb344_0_0).1 : Int) - 48))))) > a3 then (some (wrap64 (a1 + (yb344_0_0 : Int)), 0, 2)) else (i_lex_Number.l0 k a0 a1 a2 a3 (wrap64 ((wrap64 (10 * x9_0)) + (wrap64 (wrap32 (((Utf8.decode (a0.extract (a1 : Int).toNat a0.size) yb344_0_0).1 : Int) - 48))))) x10_0 (yb344_0_0 + (Utf8.decode (a0.extract (a1 : Int).toNat a0.size) yb344_0_0).2)))) else (if (wrap64 ((wrap64 (10 * x9_0)) + (wrap64 (wrap32 (((Utf8.decode (a0.extract (a1 : Int).toNat a0.size) yb344_0_0).1 : Int) - 48))))) < a2 then (some (wrap64 (a1 + (yb344_0_0 : Int)), 0, 2)) else (if (wrap64 ((wrap64 (10 * x9_0)) + (wrap64 (wrap32 (((Utf8.decode (a0.extract (a1 : Int).toNat a0.size) yb344_0_0).1 : Int) - 48))))) > a3 then (some (wrap64 (a1 + (yb344_0_0 : Int)), 0, 2)) else (i_lex_Number.l0 k a0 a1 a2 a3 (wrap64 ((wrap64 (10 * x9_0)) + (wrap64 (wrap32 (((Utf8.decode (a0.extract (a1 : Int).toNat a0.size) yb344_0_0).1 : Int) - 48))))) x10_0 (yb344_0_0 + (Utf8.decode (a0.extract (a1 : Int).toNat a0.size) yb344_0_0).2))))) else (if (wrap64 ((wrap64 (10 * x9_0)) + (wrap64 (wrap32 (((Utf8.decode (a0.extract (a1 : Int).toNat a0.size) yb344_0_0).1 : Int) - 48))))) > a3 then (some (wrap64 (a1 + (yb344_0_0 : Int)), 0, 2)) else (i_lex_Number.l0 k a0 a1 a2 a3 (wrap64 ((wrap64 (10 * x9_0)) + (wrap64 (wrap32 (((Utf8.decode (a0.extract (a1 : Int).toNat a0.size) yb344_0_0).1 : Int) - 48))))) x10_0 (yb344_0_0 + (Utf8.decode (a0.extract (a1 : Int).toNat a0.size) yb344_0_0).2))))) else (if (yb344_0_0 : Int) = 0 then (if 1 < a2 then (if (wrap64 ((wrap64 (10 * x9_0)) + (wrap64 (wrap32 (((Utf8.decode (a0.extract (a1 : Int).toNat a0.size) yb344_0_0).1 : Int) - 48))))) < 1 then (some (wrap64 (a1 + (yb344_0_0 : Int)), 0, 2)) else (if (wrap64 ((wrap64 (10 * x9_0)) + (wrap64 (wrap32 (((Utf8.decode (a0.extract (a1 : Int).toNat a0.size) yb344_0_0).1 : Int) - 48))))) > a3 then (some (wrap64 (a1 + (yb344_0_0 : Int)), 0, 2)) else (i_lex_Number.l0 k a0 a1 a2 a3 (wrap64 ((wrap64 (10 * x9_0)) + (wrap64 (wrap32 (((Utf8.decode (a0.extract (a1 : Int).toNat a0.size) yb344_0_0).1 : Int) - 48))))) x10_0 (yb344_0_0 + (Utf8.decode (a0.extract (a1 : Int).toNat a0.size) yb344_0_0).2)))) else (if (wrap64 ((wrap64 (10 * x9_0)) + (wrap64 (wrap32 (((Utf8.decode (a0.extract (a1 : Int).toNat a0.size) yb344_0_0).1 : Int) - 48))))) < a2 then (some (wrap64 (a1 + (yb344_0_0 : Int)), 0, 2)) else (if (wrap64 ((wrap64 (10 * x9_0)) + (wrap64 (wrap32 (((Utf8.decode (a0.extract (a1 : Int).toNat a0.size) yb344_0_0).1 : Int) - 48))))) > a3 then (some (wrap64 (a1 + (yb344_0_0 : Int)), 0, 2)) else (i_lex_Number.l0 k a0 a1 a2 a3 (wrap64 ((wrap64 (10 * x9_0)) + (wrap64 (wrap32 (((Utf8.decode (a0.extract (a1 : Int).toNat a0.size) yb344_0_0).1 : Int) - 48))))) x10_0 (yb344_0_0 + (Utf8.decode (a0.extract (a1 : Int).toNat a0.size) yb344_0_0).2))))) else (if (wrap64 ((wrap64 (10 * x9_0)) + (wrap64 (wrap32 (((Utf8.decode (a0.extract (a1 : Int).toNat a0.size) yb344_0_0).1 : Int) - 48))))) > a3 then (some (wrap64 (a1 + (yb344_0_0 : Int)), 0, 2)) else (i_lex_Number.l0 k a0 a1 a2 a3 (wrap64 ((wrap64 (10 * x9_0)) + (wrap64 (wrap32 (((Utf8.decode (a0.extract (a1 : Int).toNat a0.size) yb344_0_0).1 : Int) - 48))))) x10_0 (yb344_0_0 + (Utf8.decode (a0.extract (a1 : Int).toNat a0.size) yb344_0_0).2))))))) else (if x10_0 > a1 then (if x9_0 ≥ a2 then (some (x10_0, x9_0, 0)) else (if x10_0 = (a0.size : Int) then (some (x10_0, 0, 1)) else (some (x10_0, 0, 2)))) else (if x10_0 = (a0.size : Int) then (some (x10_0, 0, 1)) else (some (x10_0, 0, 2))))
def i_lex_Number.f (k : Nat) (a0 : ByteArray) (a1 : Int) (a2 : Int) (a3 : Int) : Option (Int × Int × Int) := (i_lex_there.f a0 a1).bind fun t334 => (if t334 = true then (if a2 < 0 then ((i_lex_wrong.f).bind fun bt335 => (some (bt335.1, bt335.2.1, bt335.2.2))) else (if a2 > a3 then ((i_lex_wrong.f).bind fun bt338 => (some (bt338.1, bt338.2.1, bt338.2.2))) else (if a3 > 1000000 then ((i_lex_wrong.f).bind fun bt341 => (some (bt341.1, bt341.2.1, bt341.2.2))) else (if 0 ≤ a1 then (if a1 ≤ (a0.size : Int) then (i_lex_Number.l0 k a0 a1 a2 a3 0 (a0.size : Int) 0) else (none)) else (none))))) else ((i_lex_wrong.f).bind fun bt345 => (some (bt345.1, bt345.2.1, bt345.2.2))))
set_option maxHeartbeats 40000000 in
set_option maxRecDepth 100000 in
theorem i_lex_Number.calls (k : Nat) (a0 : ByteArray) (a1 : Int) (a2 : Int) (a3 : Int) (r1 : Int) (r2 : Int) (r3 : Int) (w : World) (h : i_lex_Number.f k a0 a1 a2 a3 = some (r1, r2, r3)) :
    Calls Try.prog 14 #[.string a0, .int .i64 a1, .int .i64 a2, .int .i64 a3] w fun e w' => e = .returned (.agg #[.int .i64 r1, .int .i64 r2, .int .i64 r3]) ∧ Below w.heap.size w w' := by
  have HL := hid (Below.refl w.heap.size w)
  have H : ((i_lex_there.f a0 a1).bind fun t334 => (if t334 = true then (if a2 < 0 then ((i_lex_wrong.f).bind fun bt335 => (some (bt335.1, bt335.2.1, bt335.2.2))) else (if a2 > a3 then ((i_lex_wrong.f).bind fun bt338 => (some (bt338.1, bt338.2.1, bt338.2.2))) else (if a3 > 1000000 then ((i_lex_wrong.f).bind fun bt341 => (some (bt341.1, bt341.2.1, bt341.2.2))) else (if 0 ≤ a1 then (if a1 ≤ (a0.size : Int) then (i_lex_Number.l0 k a0 a1 a2 a3 0 (a0.size : Int) 0) else (none)) else (none))))) else ((i_lex_wrong.f).bind fun bt345 => (some (bt345.1, bt345.2.1, bt345.2.2))))) = some (r1, r2, r3) := h
  clear h
  replace H := Option.bind_eq_some_iff.mp H
  obtain ⟨t334, A348_, H⟩ := H
  replace H : (if t334 = true then (if a2 < 0 then ((i_lex_wrong.f).bind fun bt335 => (some (bt335.1, bt335.2.1, bt335.2.2))) else (if a2 > a3 then ((i_lex_wrong.f).bind fun bt338 => (some (bt338.1, bt338.2.1, bt338.2.2))) else (if a3 > 1000000 then ((i_lex_wrong.f).bind fun bt341 => (some (bt341.1, bt341.2.1, bt341.2.2))) else (if 0 ≤ a1 then (if a1 ≤ (a0.size : Int) then (i_lex_Number.l0 k a0 a1 a2 a3 0 (a0.size : Int) 0) else (none)) else (none))))) else ((i_lex_wrong.f).bind fun bt345 => (some (bt345.1, bt345.2.1, bt345.2.2)))) = some (r1, r2, r3) := H
  have A348 := hid A348_
  clear A348_
  cases t334 with
  | true =>
    rw [if_pos rfl] at H
    by_cases c350 : a2 < 0
    · rw [if_pos c350] at H
      have c350b0 : decide (a2 < 0) = true := decide_eq_true c350
      have hc350 := hid c350
      clear c350
      replace H := Option.bind_eq_some_iff.mp H
      obtain ⟨⟨t335, t336, t337⟩, A351_, H⟩ := H
      replace H : (some (t335, t336, t337)) = some (r1, r2, r3) := H
      have A351 := hid A351_
      clear A351_
      simp only [Option.some.injEq, Prod.mk.injEq] at H
      obtain ⟨rfl, rfl, rfl⟩ := H
      go_enter Try.func14, Try.ntmps14
      have k353 := True.intro
      have k354 := True.intro
      go_wp2_with (first
        | ((with_reducible refine gate_d (N := 8) rfl ?_); obtain ⟨gb333, hgb333⟩ : ∃ g_, w.heap.size = g_ := ⟨_, rfl⟩; refine ag_alloc aT26 gb333 hgb333 rfl rfl ?_; intro w352 hb_ hB_ hs_; have GEb333 : Hid (w.heap.size ≤ gb333) := hid (by have := HL.out.size; omega); replace HL := hid (HL.out.trans (hb_.mono GEb333.out)); have BKb333 := hid hB_; clear hb_ hB_ hs_ hgb333)
        | (go_at_call 27; clear k353; refine (i_lex_there.calls a0 a1 true _ A348.out).mono ?_; rintro e_ w' ⟨rfl, rfl⟩)
        | (go_at_call 28; clear k354; refine (i_lex_wrong.calls t335 t336 t337 _ A351.out).mono ?_; rintro e_ w355 ⟨rfl, hb_⟩; replace BKb333 := hid (BKb333.out.below hb_ BKb333.out.lt); replace HL := hid (HL.out.trans (hb_.mono HL.out.size)); clear hb_)
        | ((with_reducible refine gate_s (t := 26) (p := 8) rfl ?_); refine ag_store aT26 gb333 0 #[.int .i64 0, .int .i64 0, .int .i64 0] #[.int .i64 t335, .int .i64 t336, .int .i64 t337] #[.int .i64 t335, .int .i64 t336, .int .i64 t337] BKb333.out rfl (by simp) (by intro v_ hv_; simp at hv_; rcases hv_ with rfl | rfl | rfl <;> first | rfl) rfl rfl _ _ rfl rfl rfl ?_; intro w356 ho_ hB_; replace HL := hid (ho_.below HL.out GEb333.out); replace BKb333 := hid hB_; clear ho_ hB_))
      (try simp only [Act.put, List.setIfInBounds_toArray, List.set_cons_zero, List.set_cons_succ])
      refine bodyPost_ret (v := .agg #[.int .i64 t335, .int .i64 t336, .int .i64 t337]) (res_c aT26 rfl _ gb333 #[.int .i64 t335, .int .i64 t336, .int .i64 t337] BKb333.out rfl rfl) rfl ?_
      exact ⟨by first | rfl | (simp; done) | (simp [*]; done), HL.out⟩
    · rw [if_neg c350] at H
      have c350b0 : decide (a2 < 0) = false := decide_eq_false c350
      have hc350 := hid c350
      clear c350
      by_cases c357 : a2 > a3
      · rw [if_pos c357] at H
        have c357b0 : decide (a3 < a2) = true := decide_eq_true c357
        have hc357 := hid c357
        clear c357
        replace H := Option.bind_eq_some_iff.mp H
        obtain ⟨⟨t338, t339, t340⟩, A358_, H⟩ := H
        replace H : (some (t338, t339, t340)) = some (r1, r2, r3) := H
        have A358 := hid A358_
        clear A358_
        simp only [Option.some.injEq, Prod.mk.injEq] at H
        obtain ⟨rfl, rfl, rfl⟩ := H
        go_enter Try.func14, Try.ntmps14
        have k360 := True.intro
        have k361 := True.intro
        go_wp2_with (first
          | ((with_reducible refine gate_d (N := 8) rfl ?_); obtain ⟨gb333, hgb333⟩ : ∃ g_, w.heap.size = g_ := ⟨_, rfl⟩; refine ag_alloc aT26 gb333 hgb333 rfl rfl ?_; intro w359 hb_ hB_ hs_; have GEb333 : Hid (w.heap.size ≤ gb333) := hid (by have := HL.out.size; omega); replace HL := hid (HL.out.trans (hb_.mono GEb333.out)); have BKb333 := hid hB_; clear hb_ hB_ hs_ hgb333)
          | (go_at_call 27; clear k360; refine (i_lex_there.calls a0 a1 true _ A348.out).mono ?_; rintro e_ w' ⟨rfl, rfl⟩)
          | (go_at_call 28; clear k361; refine (i_lex_wrong.calls t338 t339 t340 _ A358.out).mono ?_; rintro e_ w362 ⟨rfl, hb_⟩; replace BKb333 := hid (BKb333.out.below hb_ BKb333.out.lt); replace HL := hid (HL.out.trans (hb_.mono HL.out.size)); clear hb_)
          | ((with_reducible refine gate_s (t := 26) (p := 8) rfl ?_); refine ag_store aT26 gb333 0 #[.int .i64 0, .int .i64 0, .int .i64 0] #[.int .i64 t338, .int .i64 t339, .int .i64 t340] #[.int .i64 t338, .int .i64 t339, .int .i64 t340] BKb333.out rfl (by simp) (by intro v_ hv_; simp at hv_; rcases hv_ with rfl | rfl | rfl <;> first | rfl) rfl rfl _ _ rfl rfl rfl ?_; intro w363 ho_ hB_; replace HL := hid (ho_.below HL.out GEb333.out); replace BKb333 := hid hB_; clear ho_ hB_))
        (try simp only [Act.put, List.setIfInBounds_toArray, List.set_cons_zero, List.set_cons_succ])
        refine bodyPost_ret (v := .agg #[.int .i64 t338, .int .i64 t339, .int .i64 t340]) (res_c aT26 rfl _ gb333 #[.int .i64 t338, .int .i64 t339, .int .i64 t340] BKb333.out rfl rfl) rfl ?_
        exact ⟨by first | rfl | (simp; done) | (simp [*]; done), HL.out⟩
      · rw [if_neg c357] at H
        have c357b0 : decide (a3 < a2) = false := decide_eq_false c357
        have hc357 := hid c357
        clear c357
        by_cases c364 : a3 > 1000000
        · rw [if_pos c364] at H
          have c364b0 : decide (1000000 < a3) = true := decide_eq_true c364
          have hc364 := hid c364
          clear c364
          replace H := Option.bind_eq_some_iff.mp H
          obtain ⟨⟨t341, t342, t343⟩, A365_, H⟩ := H
          replace H : (some (t341, t342, t343)) = some (r1, r2, r3) := H
          have A365 := hid A365_
          clear A365_
          simp only [Option.some.injEq, Prod.mk.injEq] at H
          obtain ⟨rfl, rfl, rfl⟩ := H
          go_enter Try.func14, Try.ntmps14
          have k367 := True.intro
          have k368 := True.intro
          go_wp2_with (first
            | ((with_reducible refine gate_d (N := 8) rfl ?_); obtain ⟨gb333, hgb333⟩ : ∃ g_, w.heap.size = g_ := ⟨_, rfl⟩; refine ag_alloc aT26 gb333 hgb333 rfl rfl ?_; intro w366 hb_ hB_ hs_; have GEb333 : Hid (w.heap.size ≤ gb333) := hid (by have := HL.out.size; omega); replace HL := hid (HL.out.trans (hb_.mono GEb333.out)); have BKb333 := hid hB_; clear hb_ hB_ hs_ hgb333)
            | (go_at_call 27; clear k367; refine (i_lex_there.calls a0 a1 true _ A348.out).mono ?_; rintro e_ w' ⟨rfl, rfl⟩)
            | (go_at_call 28; clear k368; refine (i_lex_wrong.calls t341 t342 t343 _ A365.out).mono ?_; rintro e_ w369 ⟨rfl, hb_⟩; replace BKb333 := hid (BKb333.out.below hb_ BKb333.out.lt); replace HL := hid (HL.out.trans (hb_.mono HL.out.size)); clear hb_)
            | ((with_reducible refine gate_s (t := 26) (p := 8) rfl ?_); refine ag_store aT26 gb333 0 #[.int .i64 0, .int .i64 0, .int .i64 0] #[.int .i64 t341, .int .i64 t342, .int .i64 t343] #[.int .i64 t341, .int .i64 t342, .int .i64 t343] BKb333.out rfl (by simp) (by intro v_ hv_; simp at hv_; rcases hv_ with rfl | rfl | rfl <;> first | rfl) rfl rfl _ _ rfl rfl rfl ?_; intro w370 ho_ hB_; replace HL := hid (ho_.below HL.out GEb333.out); replace BKb333 := hid hB_; clear ho_ hB_))
          (try simp only [Act.put, List.setIfInBounds_toArray, List.set_cons_zero, List.set_cons_succ])
          refine bodyPost_ret (v := .agg #[.int .i64 t341, .int .i64 t342, .int .i64 t343]) (res_c aT26 rfl _ gb333 #[.int .i64 t341, .int .i64 t342, .int .i64 t343] BKb333.out rfl rfl) rfl ?_
          exact ⟨by first | rfl | (simp; done) | (simp [*]; done), HL.out⟩
        · rw [if_neg c364] at H
          have c364b0 : decide (1000000 < a3) = false := decide_eq_false c364
          have hc364 := hid c364
          clear c364
          by_cases c371 : 0 ≤ a1
          · rw [if_pos c371] at H
            have c371b0 : decide (0 ≤ a1) = true := decide_eq_true c371
            have hc371 := hid c371
            clear c371
            by_cases c372 : a1 ≤ (a0.size : Int)
            · rw [if_pos c372] at H
              have c372b0 : decide (a1 ≤ (a0.size : Int)) = true := decide_eq_true c372
              have hc372 := hid c372
              clear c372
              have H' := hid H
              clear H
              go_enter Try.func14, Try.ntmps14
              have k374 := True.intro
              go_wp2_with (first
                | ((with_reducible refine gate_d (N := 8) rfl ?_); obtain ⟨gb333, hgb333⟩ : ∃ g_, w.heap.size = g_ := ⟨_, rfl⟩; refine ag_alloc aT26 gb333 hgb333 rfl rfl ?_; intro w373 hb_ hB_ hs_; have GEb333 : Hid (w.heap.size ≤ gb333) := hid (by have := HL.out.size; omega); replace HL := hid (HL.out.trans (hb_.mono GEb333.out)); have BKb333 := hid hB_; clear hb_ hB_ hs_ hgb333)
                | (go_at_call 27; clear k374; refine (i_lex_there.calls a0 a1 true _ A348.out).mono ?_; rintro e_ w' ⟨rfl, rfl⟩)
                | ((with_reducible refine gate_d (N := 36) rfl ?_); refine ag_fix (.string (a0.extract (a1 : Int).toNat a0.size)) (ex_cut_l 9 und_txt a0 a1  hc371.out hc372.out _ _ rfl rfl rfl) rfl ?_)
                | ((with_reducible refine gate_d (N := 37) rfl ?_); obtain ⟨gb344, hgb344⟩ : ∃ g_, w373.heap.size = g_ := ⟨_, rfl⟩; refine ag_range (a0.extract (a1 : Int).toNat a0.size) gb344 hgb344 und_txt rfl _ rfl rfl ?_; intro w375 hb_ hB_ hs_; have GEb344 : Hid (w.heap.size ≤ gb344) := hid (by have := HL.out.size; omega); have NBb333_b344 : Hid (gb333 ≠ gb344) := hid (by have := BKb333.out.lt; omega); have NBb344_b333 : Hid (gb344 ≠ gb333) := hid (by have := NBb333_b344.out; omega); replace BKb333 := hid (BKb333.out.below hb_ (by rw [← hgb344]; exact BKb333.out.lt)); replace HL := hid (HL.out.trans (hb_.mono GEb344.out)); have BKb344 := hid hB_; clear hb_ hB_ hs_ hgb344))
              (try simp only [Act.put, List.setIfInBounds_toArray, List.set_cons_zero, List.set_cons_succ])
              go_loopg [9, 10] k (fun kq v9 v10 w' => ∃ (x9_0 : Int) (x10_0 : Int) (yb344_0_0 : Nat), v9 = .int .i64 x9_0 ∧ v10 = .int .i64 x10_0 ∧ Hid (i_lex_Number.l0 kq a0 a1 a2 a3 x9_0 x10_0 yb344_0_0 = some (r1, r2, r3)) ∧ Hid (kq ≤ k) ∧ Hid (Blk w' gb333 26 #[.int .i64 0, .int .i64 0, .int .i64 0]) ∧ Hid (Itr w' gb344 (a0.extract (a1 : Int).toNat a0.size) yb344_0_0) ∧ Hid (Below w.heap.size w w'))
              case atStart => exact ⟨(0 : Int), (a0.size : Int), (0 : Nat), (by first | rfl | (simp; done) | (simp [*]; done)), (by first | rfl | (simp; done) | (simp [*]; done)), H', (hid (by first | omega | (omega))), (hid (by exact BKb333.out)), (hid (by exact BKb344.out)), HL⟩
              case round =>
                clear H'
                clear HL BKb333 BKb344
                obtain ⟨x9_0, x10_0, yb344_0_0, rfl, rfl, HA, HK376, BKb333, BKb344, HL⟩ := hrel
                cases gk with
                | zero => exact absurd HA.out (by simp [i_lex_Number.l0])
                | succ k377 =>
                  have H := HA.out
                  clear HA
                  simp only [i_lex_Number.l0] at H
                  by_cases c378 : yb344_0_0 < (a0.extract (a1 : Int).toNat a0.size).size
                  · rw [if_pos c378] at H
                    have c378b0 : decide (yb344_0_0 < (a0.extract (a1 : Int).toNat a0.size).size) = true := decide_eq_true c378
                    have hc378 := hid c378
                    clear c378
                    by_cases c379 : ((Utf8.decode (a0.extract (a1 : Int).toNat a0.size) yb344_0_0).1 : Int) < 48
                    · rw [if_pos c379] at H
                      have c379b0 : decide (((Utf8.decode (a0.extract (a1 : Int).toNat a0.size) yb344_0_0).1 : Int) < 48) = true := decide_eq_true c379
                      have c379b1 : decide ((Utf8.decode (a0.extract (a1 : Int).toNat a0.size) yb344_0_0).1 < 48) = true := decide_eq_true (by omega)
                      have hc379 := hid c379
                      clear c379
                      by_cases c380 : (wrap64 (a1 + (yb344_0_0 : Int))) > a1
                      · rw [if_pos c380] at H
                        have c380b0 : decide (a1 < (wrap64 (a1 + (yb344_0_0 : Int)))) = true := decide_eq_true c380
                        have hc380 := hid c380
                        clear c380
                        by_cases c381 : x9_0 ≥ a2
                        · rw [if_pos c381] at H
                          have c381b0 : decide (a2 ≤ x9_0) = true := decide_eq_true c381
                          have hc381 := hid c381
                          clear c381
                          simp only [Option.some.injEq, Prod.mk.injEq] at H
                          obtain ⟨rfl, rfl, rfl⟩ := H
                          go_wp2_with (first
                            | ((with_reducible refine gate_d (N := 38) rfl ?_); refine ag_next_y (a0.extract (a1 : Int).toNat a0.size) gb344 yb344_0_0 BKb344.out hc378.out rfl _ rfl rfl ?_; intro w382 ho_ hB_; replace BKb333 := hid (BKb333.out.off ho_ NBb333_b344.out); replace HL := hid (ho_.below HL.out GEb344.out); replace BKb344 := hid hB_; clear ho_ hB_)
                            | ((with_reducible refine gate_d (N := 99) rfl ?_); refine ag_build (.agg #[.int .i64 (wrap64 (a1 + (yb344_0_0 : Int))), .int .i64 x9_0, .int .i64 0]) _ rfl rfl ?_ ?_; (intro ww_; simp only [List.map_toArray, List.map_cons, List.map_nil]; kernel_rfl))
                            | ((with_reducible refine gate_s (t := 26) (p := 8) rfl ?_); refine ag_store aT26 gb333 0 #[.int .i64 0, .int .i64 0, .int .i64 0] #[.int .i64 (wrap64 (a1 + (yb344_0_0 : Int))), .int .i64 x9_0, .int .i64 0] #[.int .i64 (wrap64 (a1 + (yb344_0_0 : Int))), .int .i64 x9_0, .int .i64 0] BKb333.out rfl (by simp) (by intro v_ hv_; simp at hv_; rcases hv_ with rfl | rfl | rfl <;> first | rfl) rfl rfl _ _ rfl rfl rfl ?_; intro w383 ho_ hB_; replace BKb344 := hid (BKb344.out.off ho_ NBb344_b333.out); replace HL := hid (ho_.below HL.out GEb333.out); replace BKb333 := hid hB_; clear ho_ hB_))
                          (try simp only [Act.put, List.setIfInBounds_toArray, List.set_cons_zero, List.set_cons_succ])
                          refine bodyPost_ret (v := .agg #[.int .i64 (wrap64 (a1 + (yb344_0_0 : Int))), .int .i64 x9_0, .int .i64 0]) (res_c aT26 rfl _ gb333 #[.int .i64 (wrap64 (a1 + (yb344_0_0 : Int))), .int .i64 x9_0, .int .i64 0] BKb333.out rfl rfl) rfl ?_
                          exact ⟨by first | rfl | (simp; done) | (simp [*]; done), HL.out⟩
                        · rw [if_neg c381] at H
                          have c381b0 : decide (a2 ≤ x9_0) = false := decide_eq_false c381
                          have hc381 := hid c381
                          clear c381
                          by_cases c384 : (wrap64 (a1 + (yb344_0_0 : Int))) = (a0.size : Int)
                          · rw [if_pos c384] at H
                            have c384b0 : ((wrap64 (a1 + (yb344_0_0 : Int))) == (a0.size : Int)) = true := beq_iff_eq.mpr c384
                            have c384b1 : ((wrap64 (a1 + (yb344_0_0 : Int))) != (a0.size : Int)) = false := bne_eq_false_iff_eq.mpr c384
                            have hc384 := hid c384
                            clear c384
                            simp only [Option.some.injEq, Prod.mk.injEq] at H
                            obtain ⟨rfl, rfl, rfl⟩ := H
                            go_wp2_with (first
                              | ((with_reducible refine gate_d (N := 38) rfl ?_); refine ag_next_y (a0.extract (a1 : Int).toNat a0.size) gb344 yb344_0_0 BKb344.out hc378.out rfl _ rfl rfl ?_; intro w385 ho_ hB_; replace BKb333 := hid (BKb333.out.off ho_ NBb333_b344.out); replace HL := hid (ho_.below HL.out GEb344.out); replace BKb344 := hid hB_; clear ho_ hB_)
                              | ((with_reducible refine gate_d (N := 106) rfl ?_); refine ag_build (.agg #[.int .i64 (wrap64 (a1 + (yb344_0_0 : Int))), .int .i64 0, .int .i64 1]) _ rfl rfl ?_ ?_; (intro ww_; simp only [List.map_toArray, List.map_cons, List.map_nil]; kernel_rfl))
                              | ((with_reducible refine gate_s (t := 26) (p := 8) rfl ?_); refine ag_store aT26 gb333 0 #[.int .i64 0, .int .i64 0, .int .i64 0] #[.int .i64 (wrap64 (a1 + (yb344_0_0 : Int))), .int .i64 0, .int .i64 1] #[.int .i64 (wrap64 (a1 + (yb344_0_0 : Int))), .int .i64 0, .int .i64 1] BKb333.out rfl (by simp) (by intro v_ hv_; simp at hv_; rcases hv_ with rfl | rfl | rfl <;> first | rfl) rfl rfl _ _ rfl rfl rfl ?_; intro w386 ho_ hB_; replace BKb344 := hid (BKb344.out.off ho_ NBb344_b333.out); replace HL := hid (ho_.below HL.out GEb333.out); replace BKb333 := hid hB_; clear ho_ hB_))
                            (try simp only [Act.put, List.setIfInBounds_toArray, List.set_cons_zero, List.set_cons_succ])
                            refine bodyPost_ret (v := .agg #[.int .i64 (wrap64 (a1 + (yb344_0_0 : Int))), .int .i64 0, .int .i64 1]) (res_c aT26 rfl _ gb333 #[.int .i64 (wrap64 (a1 + (yb344_0_0 : Int))), .int .i64 0, .int .i64 1] BKb333.out rfl rfl) rfl ?_
                            exact ⟨by first | rfl | (simp; done) | (simp [*]; done), HL.out⟩
                          · rw [if_neg c384] at H
                            have c384b0 : ((wrap64 (a1 + (yb344_0_0 : Int))) == (a0.size : Int)) = false := beq_eq_false_iff_ne.mpr c384
                            have c384b1 : ((wrap64 (a1 + (yb344_0_0 : Int))) != (a0.size : Int)) = true := bne_iff_ne.mpr c384
                            have hc384 := hid c384
                            clear c384
                            simp only [Option.some.injEq, Prod.mk.injEq] at H
                            obtain ⟨rfl, rfl, rfl⟩ := H
                            go_wp2_with (first
                              | ((with_reducible refine gate_d (N := 38) rfl ?_); refine ag_next_y (a0.extract (a1 : Int).toNat a0.size) gb344 yb344_0_0 BKb344.out hc378.out rfl _ rfl rfl ?_; intro w387 ho_ hB_; replace BKb333 := hid (BKb333.out.off ho_ NBb333_b344.out); replace HL := hid (ho_.below HL.out GEb344.out); replace BKb344 := hid hB_; clear ho_ hB_)
                              | ((with_reducible refine gate_d (N := 108) rfl ?_); refine ag_build (.agg #[.int .i64 (wrap64 (a1 + (yb344_0_0 : Int))), .int .i64 0, .int .i64 2]) _ rfl rfl ?_ ?_; (intro ww_; simp only [List.map_toArray, List.map_cons, List.map_nil]; kernel_rfl))
                              | ((with_reducible refine gate_s (t := 26) (p := 8) rfl ?_); refine ag_store aT26 gb333 0 #[.int .i64 0, .int .i64 0, .int .i64 0] #[.int .i64 (wrap64 (a1 + (yb344_0_0 : Int))), .int .i64 0, .int .i64 2] #[.int .i64 (wrap64 (a1 + (yb344_0_0 : Int))), .int .i64 0, .int .i64 2] BKb333.out rfl (by simp) (by intro v_ hv_; simp at hv_; rcases hv_ with rfl | rfl | rfl <;> first | rfl) rfl rfl _ _ rfl rfl rfl ?_; intro w388 ho_ hB_; replace BKb344 := hid (BKb344.out.off ho_ NBb344_b333.out); replace HL := hid (ho_.below HL.out GEb333.out); replace BKb333 := hid hB_; clear ho_ hB_))
                            (try simp only [Act.put, List.setIfInBounds_toArray, List.set_cons_zero, List.set_cons_succ])
                            refine bodyPost_ret (v := .agg #[.int .i64 (wrap64 (a1 + (yb344_0_0 : Int))), .int .i64 0, .int .i64 2]) (res_c aT26 rfl _ gb333 #[.int .i64 (wrap64 (a1 + (yb344_0_0 : Int))), .int .i64 0, .int .i64 2] BKb333.out rfl rfl) rfl ?_
                            exact ⟨by first | rfl | (simp; done) | (simp [*]; done), HL.out⟩
                      · rw [if_neg c380] at H
                        have c380b0 : decide (a1 < (wrap64 (a1 + (yb344_0_0 : Int)))) = false := decide_eq_false c380
                        have hc380 := hid c380
                        clear c380
                        by_cases c389 : (wrap64 (a1 + (yb344_0_0 : Int))) = (a0.size : Int)
                        · rw [if_pos c389] at H
                          have c389b0 : ((wrap64 (a1 + (yb344_0_0 : Int))) == (a0.size : Int)) = true := beq_iff_eq.mpr c389
                          have c389b1 : ((wrap64 (a1 + (yb344_0_0 : Int))) != (a0.size : Int)) = false := bne_eq_false_iff_eq.mpr c389
                          have hc389 := hid c389
                          clear c389
                          simp only [Option.some.injEq, Prod.mk.injEq] at H
                          obtain ⟨rfl, rfl, rfl⟩ := H
                          go_wp2_with (first
                            | ((with_reducible refine gate_d (N := 38) rfl ?_); refine ag_next_y (a0.extract (a1 : Int).toNat a0.size) gb344 yb344_0_0 BKb344.out hc378.out rfl _ rfl rfl ?_; intro w390 ho_ hB_; replace BKb333 := hid (BKb333.out.off ho_ NBb333_b344.out); replace HL := hid (ho_.below HL.out GEb344.out); replace BKb344 := hid hB_; clear ho_ hB_)
                            | ((with_reducible refine gate_d (N := 106) rfl ?_); refine ag_build (.agg #[.int .i64 (wrap64 (a1 + (yb344_0_0 : Int))), .int .i64 0, .int .i64 1]) _ rfl rfl ?_ ?_; (intro ww_; simp only [List.map_toArray, List.map_cons, List.map_nil]; kernel_rfl))
                            | ((with_reducible refine gate_s (t := 26) (p := 8) rfl ?_); refine ag_store aT26 gb333 0 #[.int .i64 0, .int .i64 0, .int .i64 0] #[.int .i64 (wrap64 (a1 + (yb344_0_0 : Int))), .int .i64 0, .int .i64 1] #[.int .i64 (wrap64 (a1 + (yb344_0_0 : Int))), .int .i64 0, .int .i64 1] BKb333.out rfl (by simp) (by intro v_ hv_; simp at hv_; rcases hv_ with rfl | rfl | rfl <;> first | rfl) rfl rfl _ _ rfl rfl rfl ?_; intro w391 ho_ hB_; replace BKb344 := hid (BKb344.out.off ho_ NBb344_b333.out); replace HL := hid (ho_.below HL.out GEb333.out); replace BKb333 := hid hB_; clear ho_ hB_))
                          (try simp only [Act.put, List.setIfInBounds_toArray, List.set_cons_zero, List.set_cons_succ])
                          refine bodyPost_ret (v := .agg #[.int .i64 (wrap64 (a1 + (yb344_0_0 : Int))), .int .i64 0, .int .i64 1]) (res_c aT26 rfl _ gb333 #[.int .i64 (wrap64 (a1 + (yb344_0_0 : Int))), .int .i64 0, .int .i64 1] BKb333.out rfl rfl) rfl ?_
                          exact ⟨by first | rfl | (simp; done) | (simp [*]; done), HL.out⟩
                        · rw [if_neg c389] at H
                          have c389b0 : ((wrap64 (a1 + (yb344_0_0 : Int))) == (a0.size : Int)) = false := beq_eq_false_iff_ne.mpr c389
                          have c389b1 : ((wrap64 (a1 + (yb344_0_0 : Int))) != (a0.size : Int)) = true := bne_iff_ne.mpr c389
                          have hc389 := hid c389
                          clear c389
                          simp only [Option.some.injEq, Prod.mk.injEq] at H
                          obtain ⟨rfl, rfl, rfl⟩ := H
                          go_wp2_with (first
                            | ((with_reducible refine gate_d (N := 38) rfl ?_); refine ag_next_y (a0.extract (a1 : Int).toNat a0.size) gb344 yb344_0_0 BKb344.out hc378.out rfl _ rfl rfl ?_; intro w392 ho_ hB_; replace BKb333 := hid (BKb333.out.off ho_ NBb333_b344.out); replace HL := hid (ho_.below HL.out GEb344.out); replace BKb344 := hid hB_; clear ho_ hB_)
                            | ((with_reducible refine gate_d (N := 108) rfl ?_); refine ag_build (.agg #[.int .i64 (wrap64 (a1 + (yb344_0_0 : Int))), .int .i64 0, .int .i64 2]) _ rfl rfl ?_ ?_; (intro ww_; simp only [List.map_toArray, List.map_cons, List.map_nil]; kernel_rfl))
                            | ((with_reducible refine gate_s (t := 26) (p := 8) rfl ?_); refine ag_store aT26 gb333 0 #[.int .i64 0, .int .i64 0, .int .i64 0] #[.int .i64 (wrap64 (a1 + (yb344_0_0 : Int))), .int .i64 0, .int .i64 2] #[.int .i64 (wrap64 (a1 + (yb344_0_0 : Int))), .int .i64 0, .int .i64 2] BKb333.out rfl (by simp) (by intro v_ hv_; simp at hv_; rcases hv_ with rfl | rfl | rfl <;> first | rfl) rfl rfl _ _ rfl rfl rfl ?_; intro w393 ho_ hB_; replace BKb344 := hid (BKb344.out.off ho_ NBb344_b333.out); replace HL := hid (ho_.below HL.out GEb333.out); replace BKb333 := hid hB_; clear ho_ hB_))
                          (try simp only [Act.put, List.setIfInBounds_toArray, List.set_cons_zero, List.set_cons_succ])
                          refine bodyPost_ret (v := .agg #[.int .i64 (wrap64 (a1 + (yb344_0_0 : Int))), .int .i64 0, .int .i64 2]) (res_c aT26 rfl _ gb333 #[.int .i64 (wrap64 (a1 + (yb344_0_0 : Int))), .int .i64 0, .int .i64 2] BKb333.out rfl rfl) rfl ?_
                          exact ⟨by first | rfl | (simp; done) | (simp [*]; done), HL.out⟩
                    · rw [if_neg c379] at H
                      have c379b0 : decide (((Utf8.decode (a0.extract (a1 : Int).toNat a0.size) yb344_0_0).1 : Int) < 48) = false := decide_eq_false c379
                      have c379b1 : decide ((Utf8.decode (a0.extract (a1 : Int).toNat a0.size) yb344_0_0).1 < 48) = false := decide_eq_false (by omega)
                      have hc379 := hid c379
                      clear c379
                      by_cases c394 : ((Utf8.decode (a0.extract (a1 : Int).toNat a0.size) yb344_0_0).1 : Int) > 57
                      · rw [if_pos c394] at H
                        have c394b0 : decide (57 < ((Utf8.decode (a0.extract (a1 : Int).toNat a0.size) yb344_0_0).1 : Int)) = true := decide_eq_true c394
                        have c394b1 : decide (57 < (Utf8.decode (a0.extract (a1 : Int).toNat a0.size) yb344_0_0).1) = true := decide_eq_true (by omega)
                        have hc394 := hid c394
                        clear c394
                        by_cases c395 : (wrap64 (a1 + (yb344_0_0 : Int))) > a1
                        · rw [if_pos c395] at H
                          have c395b0 : decide (a1 < (wrap64 (a1 + (yb344_0_0 : Int)))) = true := decide_eq_true c395
                          have hc395 := hid c395
                          clear c395
                          by_cases c396 : x9_0 ≥ a2
                          · rw [if_pos c396] at H
                            have c396b0 : decide (a2 ≤ x9_0) = true := decide_eq_true c396
                            have hc396 := hid c396
                            clear c396
                            simp only [Option.some.injEq, Prod.mk.injEq] at H
                            obtain ⟨rfl, rfl, rfl⟩ := H
                            go_wp2_with (first
                              | ((with_reducible refine gate_d (N := 38) rfl ?_); refine ag_next_y (a0.extract (a1 : Int).toNat a0.size) gb344 yb344_0_0 BKb344.out hc378.out rfl _ rfl rfl ?_; intro w397 ho_ hB_; replace BKb333 := hid (BKb333.out.off ho_ NBb333_b344.out); replace HL := hid (ho_.below HL.out GEb344.out); replace BKb344 := hid hB_; clear ho_ hB_)
                              | ((with_reducible refine gate_d (N := 99) rfl ?_); refine ag_build (.agg #[.int .i64 (wrap64 (a1 + (yb344_0_0 : Int))), .int .i64 x9_0, .int .i64 0]) _ rfl rfl ?_ ?_; (intro ww_; simp only [List.map_toArray, List.map_cons, List.map_nil]; kernel_rfl))
                              | ((with_reducible refine gate_s (t := 26) (p := 8) rfl ?_); refine ag_store aT26 gb333 0 #[.int .i64 0, .int .i64 0, .int .i64 0] #[.int .i64 (wrap64 (a1 + (yb344_0_0 : Int))), .int .i64 x9_0, .int .i64 0] #[.int .i64 (wrap64 (a1 + (yb344_0_0 : Int))), .int .i64 x9_0, .int .i64 0] BKb333.out rfl (by simp) (by intro v_ hv_; simp at hv_; rcases hv_ with rfl | rfl | rfl <;> first | rfl) rfl rfl _ _ rfl rfl rfl ?_; intro w398 ho_ hB_; replace BKb344 := hid (BKb344.out.off ho_ NBb344_b333.out); replace HL := hid (ho_.below HL.out GEb333.out); replace BKb333 := hid hB_; clear ho_ hB_))
                            (try simp only [Act.put, List.setIfInBounds_toArray, List.set_cons_zero, List.set_cons_succ])
                            refine bodyPost_ret (v := .agg #[.int .i64 (wrap64 (a1 + (yb344_0_0 : Int))), .int .i64 x9_0, .int .i64 0]) (res_c aT26 rfl _ gb333 #[.int .i64 (wrap64 (a1 + (yb344_0_0 : Int))), .int .i64 x9_0, .int .i64 0] BKb333.out rfl rfl) rfl ?_
                            exact ⟨by first | rfl | (simp; done) | (simp [*]; done), HL.out⟩
                          · rw [if_neg c396] at H
                            have c396b0 : decide (a2 ≤ x9_0) = false := decide_eq_false c396
                            have hc396 := hid c396
                            clear c396
                            by_cases c399 : (wrap64 (a1 + (yb344_0_0 : Int))) = (a0.size : Int)
                            · rw [if_pos c399] at H
                              have c399b0 : ((wrap64 (a1 + (yb344_0_0 : Int))) == (a0.size : Int)) = true := beq_iff_eq.mpr c399
                              have c399b1 : ((wrap64 (a1 + (yb344_0_0 : Int))) != (a0.size : Int)) = false := bne_eq_false_iff_eq.mpr c399
                              have hc399 := hid c399
                              clear c399
                              simp only [Option.some.injEq, Prod.mk.injEq] at H
                              obtain ⟨rfl, rfl, rfl⟩ := H
                              go_wp2_with (first
                                | ((with_reducible refine gate_d (N := 38) rfl ?_); refine ag_next_y (a0.extract (a1 : Int).toNat a0.size) gb344 yb344_0_0 BKb344.out hc378.out rfl _ rfl rfl ?_; intro w400 ho_ hB_; replace BKb333 := hid (BKb333.out.off ho_ NBb333_b344.out); replace HL := hid (ho_.below HL.out GEb344.out); replace BKb344 := hid hB_; clear ho_ hB_)
                                | ((with_reducible refine gate_d (N := 106) rfl ?_); refine ag_build (.agg #[.int .i64 (wrap64 (a1 + (yb344_0_0 : Int))), .int .i64 0, .int .i64 1]) _ rfl rfl ?_ ?_; (intro ww_; simp only [List.map_toArray, List.map_cons, List.map_nil]; kernel_rfl))
                                | ((with_reducible refine gate_s (t := 26) (p := 8) rfl ?_); refine ag_store aT26 gb333 0 #[.int .i64 0, .int .i64 0, .int .i64 0] #[.int .i64 (wrap64 (a1 + (yb344_0_0 : Int))), .int .i64 0, .int .i64 1] #[.int .i64 (wrap64 (a1 + (yb344_0_0 : Int))), .int .i64 0, .int .i64 1] BKb333.out rfl (by simp) (by intro v_ hv_; simp at hv_; rcases hv_ with rfl | rfl | rfl <;> first | rfl) rfl rfl _ _ rfl rfl rfl ?_; intro w401 ho_ hB_; replace BKb344 := hid (BKb344.out.off ho_ NBb344_b333.out); replace HL := hid (ho_.below HL.out GEb333.out); replace BKb333 := hid hB_; clear ho_ hB_))
                              (try simp only [Act.put, List.setIfInBounds_toArray, List.set_cons_zero, List.set_cons_succ])
                              refine bodyPost_ret (v := .agg #[.int .i64 (wrap64 (a1 + (yb344_0_0 : Int))), .int .i64 0, .int .i64 1]) (res_c aT26 rfl _ gb333 #[.int .i64 (wrap64 (a1 + (yb344_0_0 : Int))), .int .i64 0, .int .i64 1] BKb333.out rfl rfl) rfl ?_
                              exact ⟨by first | rfl | (simp; done) | (simp [*]; done), HL.out⟩
                            · rw [if_neg c399] at H
                              have c399b0 : ((wrap64 (a1 + (yb344_0_0 : Int))) == (a0.size : Int)) = false := beq_eq_false_iff_ne.mpr c399
                              have c399b1 : ((wrap64 (a1 + (yb344_0_0 : Int))) != (a0.size : Int)) = true := bne_iff_ne.mpr c399
                              have hc399 := hid c399
                              clear c399
                              simp only [Option.some.injEq, Prod.mk.injEq] at H
                              obtain ⟨rfl, rfl, rfl⟩ := H
                              go_wp2_with (first
                                | ((with_reducible refine gate_d (N := 38) rfl ?_); refine ag_next_y (a0.extract (a1 : Int).toNat a0.size) gb344 yb344_0_0 BKb344.out hc378.out rfl _ rfl rfl ?_; intro w402 ho_ hB_; replace BKb333 := hid (BKb333.out.off ho_ NBb333_b344.out); replace HL := hid (ho_.below HL.out GEb344.out); replace BKb344 := hid hB_; clear ho_ hB_)
                                | ((with_reducible refine gate_d (N := 108) rfl ?_); refine ag_build (.agg #[.int .i64 (wrap64 (a1 + (yb344_0_0 : Int))), .int .i64 0, .int .i64 2]) _ rfl rfl ?_ ?_; (intro ww_; simp only [List.map_toArray, List.map_cons, List.map_nil]; kernel_rfl))
                                | ((with_reducible refine gate_s (t := 26) (p := 8) rfl ?_); refine ag_store aT26 gb333 0 #[.int .i64 0, .int .i64 0, .int .i64 0] #[.int .i64 (wrap64 (a1 + (yb344_0_0 : Int))), .int .i64 0, .int .i64 2] #[.int .i64 (wrap64 (a1 + (yb344_0_0 : Int))), .int .i64 0, .int .i64 2] BKb333.out rfl (by simp) (by intro v_ hv_; simp at hv_; rcases hv_ with rfl | rfl | rfl <;> first | rfl) rfl rfl _ _ rfl rfl rfl ?_; intro w403 ho_ hB_; replace BKb344 := hid (BKb344.out.off ho_ NBb344_b333.out); replace HL := hid (ho_.below HL.out GEb333.out); replace BKb333 := hid hB_; clear ho_ hB_))
                              (try simp only [Act.put, List.setIfInBounds_toArray, List.set_cons_zero, List.set_cons_succ])
                              refine bodyPost_ret (v := .agg #[.int .i64 (wrap64 (a1 + (yb344_0_0 : Int))), .int .i64 0, .int .i64 2]) (res_c aT26 rfl _ gb333 #[.int .i64 (wrap64 (a1 + (yb344_0_0 : Int))), .int .i64 0, .int .i64 2] BKb333.out rfl rfl) rfl ?_
                              exact ⟨by first | rfl | (simp; done) | (simp [*]; done), HL.out⟩
                        · rw [if_neg c395] at H
                          have c395b0 : decide (a1 < (wrap64 (a1 + (yb344_0_0 : Int)))) = false := decide_eq_false c395
                          have hc395 := hid c395
                          clear c395
                          by_cases c404 : (wrap64 (a1 + (yb344_0_0 : Int))) = (a0.size : Int)
                          · rw [if_pos c404] at H
                            have c404b0 : ((wrap64 (a1 + (yb344_0_0 : Int))) == (a0.size : Int)) = true := beq_iff_eq.mpr c404
                            have c404b1 : ((wrap64 (a1 + (yb344_0_0 : Int))) != (a0.size : Int)) = false := bne_eq_false_iff_eq.mpr c404
                            have hc404 := hid c404
                            clear c404
                            simp only [Option.some.injEq, Prod.mk.injEq] at H
                            obtain ⟨rfl, rfl, rfl⟩ := H
                            go_wp2_with (first
                              | ((with_reducible refine gate_d (N := 38) rfl ?_); refine ag_next_y (a0.extract (a1 : Int).toNat a0.size) gb344 yb344_0_0 BKb344.out hc378.out rfl _ rfl rfl ?_; intro w405 ho_ hB_; replace BKb333 := hid (BKb333.out.off ho_ NBb333_b344.out); replace HL := hid (ho_.below HL.out GEb344.out); replace BKb344 := hid hB_; clear ho_ hB_)
                              | ((with_reducible refine gate_d (N := 106) rfl ?_); refine ag_build (.agg #[.int .i64 (wrap64 (a1 + (yb344_0_0 : Int))), .int .i64 0, .int .i64 1]) _ rfl rfl ?_ ?_; (intro ww_; simp only [List.map_toArray, List.map_cons, List.map_nil]; kernel_rfl))
                              | ((with_reducible refine gate_s (t := 26) (p := 8) rfl ?_); refine ag_store aT26 gb333 0 #[.int .i64 0, .int .i64 0, .int .i64 0] #[.int .i64 (wrap64 (a1 + (yb344_0_0 : Int))), .int .i64 0, .int .i64 1] #[.int .i64 (wrap64 (a1 + (yb344_0_0 : Int))), .int .i64 0, .int .i64 1] BKb333.out rfl (by simp) (by intro v_ hv_; simp at hv_; rcases hv_ with rfl | rfl | rfl <;> first | rfl) rfl rfl _ _ rfl rfl rfl ?_; intro w406 ho_ hB_; replace BKb344 := hid (BKb344.out.off ho_ NBb344_b333.out); replace HL := hid (ho_.below HL.out GEb333.out); replace BKb333 := hid hB_; clear ho_ hB_))
                            (try simp only [Act.put, List.setIfInBounds_toArray, List.set_cons_zero, List.set_cons_succ])
                            refine bodyPost_ret (v := .agg #[.int .i64 (wrap64 (a1 + (yb344_0_0 : Int))), .int .i64 0, .int .i64 1]) (res_c aT26 rfl _ gb333 #[.int .i64 (wrap64 (a1 + (yb344_0_0 : Int))), .int .i64 0, .int .i64 1] BKb333.out rfl rfl) rfl ?_
                            exact ⟨by first | rfl | (simp; done) | (simp [*]; done), HL.out⟩
                          · rw [if_neg c404] at H
                            have c404b0 : ((wrap64 (a1 + (yb344_0_0 : Int))) == (a0.size : Int)) = false := beq_eq_false_iff_ne.mpr c404
                            have c404b1 : ((wrap64 (a1 + (yb344_0_0 : Int))) != (a0.size : Int)) = true := bne_iff_ne.mpr c404
                            have hc404 := hid c404
                            clear c404
                            simp only [Option.some.injEq, Prod.mk.injEq] at H
                            obtain ⟨rfl, rfl, rfl⟩ := H
                            go_wp2_with (first
                              | ((with_reducible refine gate_d (N := 38) rfl ?_); refine ag_next_y (a0.extract (a1 : Int).toNat a0.size) gb344 yb344_0_0 BKb344.out hc378.out rfl _ rfl rfl ?_; intro w407 ho_ hB_; replace BKb333 := hid (BKb333.out.off ho_ NBb333_b344.out); replace HL := hid (ho_.below HL.out GEb344.out); replace BKb344 := hid hB_; clear ho_ hB_)
                              | ((with_reducible refine gate_d (N := 108) rfl ?_); refine ag_build (.agg #[.int .i64 (wrap64 (a1 + (yb344_0_0 : Int))), .int .i64 0, .int .i64 2]) _ rfl rfl ?_ ?_; (intro ww_; simp only [List.map_toArray, List.map_cons, List.map_nil]; kernel_rfl))
                              | ((with_reducible refine gate_s (t := 26) (p := 8) rfl ?_); refine ag_store aT26 gb333 0 #[.int .i64 0, .int .i64 0, .int .i64 0] #[.int .i64 (wrap64 (a1 + (yb344_0_0 : Int))), .int .i64 0, .int .i64 2] #[.int .i64 (wrap64 (a1 + (yb344_0_0 : Int))), .int .i64 0, .int .i64 2] BKb333.out rfl (by simp) (by intro v_ hv_; simp at hv_; rcases hv_ with rfl | rfl | rfl <;> first | rfl) rfl rfl _ _ rfl rfl rfl ?_; intro w408 ho_ hB_; replace BKb344 := hid (BKb344.out.off ho_ NBb344_b333.out); replace HL := hid (ho_.below HL.out GEb333.out); replace BKb333 := hid hB_; clear ho_ hB_))
                            (try simp only [Act.put, List.setIfInBounds_toArray, List.set_cons_zero, List.set_cons_succ])
                            refine bodyPost_ret (v := .agg #[.int .i64 (wrap64 (a1 + (yb344_0_0 : Int))), .int .i64 0, .int .i64 2]) (res_c aT26 rfl _ gb333 #[.int .i64 (wrap64 (a1 + (yb344_0_0 : Int))), .int .i64 0, .int .i64 2] BKb333.out rfl rfl) rfl ?_
                            exact ⟨by first | rfl | (simp; done) | (simp [*]; done), HL.out⟩
                      · rw [if_neg c394] at H
                        have c394b0 : decide (57 < ((Utf8.decode (a0.extract (a1 : Int).toNat a0.size) yb344_0_0).1 : Int)) = false := decide_eq_false c394
                        have c394b1 : decide (57 < (Utf8.decode (a0.extract (a1 : Int).toNat a0.size) yb344_0_0).1) = false := decide_eq_false (by omega)
                        have hc394 := hid c394
                        clear c394
                        by_cases c409 : (yb344_0_0 : Int) > 0
                        · rw [if_pos c409] at H
                          have c409b0 : decide (0 < (yb344_0_0 : Int)) = true := decide_eq_true c409
                          have c409b1 : decide (0 < yb344_0_0) = true := decide_eq_true (by omega)
                          have hc409 := hid c409
                          clear c409
                          by_cases c410 : x9_0 = 0
                          · rw [if_pos c410] at H
                            have c410b0 : (x9_0 == 0) = true := beq_iff_eq.mpr c410
                            have c410b1 : (x9_0 != 0) = false := bne_eq_false_iff_eq.mpr c410
                            have hc410 := hid c410
                            clear c410
                            simp only [Option.some.injEq, Prod.mk.injEq] at H
                            obtain ⟨rfl, rfl, rfl⟩ := H
                            go_wp2_with (first
                              | ((with_reducible refine gate_d (N := 38) rfl ?_); refine ag_next_y (a0.extract (a1 : Int).toNat a0.size) gb344 yb344_0_0 BKb344.out hc378.out rfl _ rfl rfl ?_; intro w411 ho_ hB_; replace BKb333 := hid (BKb333.out.off ho_ NBb333_b344.out); replace HL := hid (ho_.below HL.out GEb344.out); replace BKb344 := hid hB_; clear ho_ hB_)
                              | ((with_reducible refine gate_d (N := 81) rfl ?_); refine ag_build (.agg #[.int .i64 (wrap64 (a1 + (yb344_0_0 : Int))), .int .i64 0, .int .i64 2]) _ rfl rfl ?_ ?_; (intro ww_; simp only [List.map_toArray, List.map_cons, List.map_nil]; kernel_rfl))
                              | ((with_reducible refine gate_s (t := 26) (p := 8) rfl ?_); refine ag_store aT26 gb333 0 #[.int .i64 0, .int .i64 0, .int .i64 0] #[.int .i64 (wrap64 (a1 + (yb344_0_0 : Int))), .int .i64 0, .int .i64 2] #[.int .i64 (wrap64 (a1 + (yb344_0_0 : Int))), .int .i64 0, .int .i64 2] BKb333.out rfl (by simp) (by intro v_ hv_; simp at hv_; rcases hv_ with rfl | rfl | rfl <;> first | rfl) rfl rfl _ _ rfl rfl rfl ?_; intro w412 ho_ hB_; replace BKb344 := hid (BKb344.out.off ho_ NBb344_b333.out); replace HL := hid (ho_.below HL.out GEb333.out); replace BKb333 := hid hB_; clear ho_ hB_))
                            (try simp only [Act.put, List.setIfInBounds_toArray, List.set_cons_zero, List.set_cons_succ])
                            refine bodyPost_ret (v := .agg #[.int .i64 (wrap64 (a1 + (yb344_0_0 : Int))), .int .i64 0, .int .i64 2]) (res_c aT26 rfl _ gb333 #[.int .i64 (wrap64 (a1 + (yb344_0_0 : Int))), .int .i64 0, .int .i64 2] BKb333.out rfl rfl) rfl ?_
                            exact ⟨by first | rfl | (simp; done) | (simp [*]; done), HL.out⟩
                          · rw [if_neg c410] at H
                            have c410b0 : (x9_0 == 0) = false := beq_eq_false_iff_ne.mpr c410
                            have c410b1 : (x9_0 != 0) = true := bne_iff_ne.mpr c410
                            have hc410 := hid c410
                            clear c410
                            by_cases c413 : (yb344_0_0 : Int) = 0
                            · rw [if_pos c413] at H
                              exfalso
                              clear H
                              have := hc409.out; omega
                            · rw [if_neg c413] at H
                              have c413b0 : ((yb344_0_0 : Int) == 0) = false := beq_eq_false_iff_ne.mpr c413
                              have c413b1 : ((yb344_0_0 : Int) != 0) = true := bne_iff_ne.mpr c413
                              have c413b2 : (yb344_0_0 == 0) = false := by first | simpa using c413 | (simp at c413 ⊢; omega)
                              have c413b3 : (yb344_0_0 != 0) = true := by first | simpa using c413 | (simp at c413 ⊢; omega)
                              have hc413 := hid c413
                              clear c413
                              by_cases c414 : (wrap64 ((wrap64 (10 * x9_0)) + (wrap64 (wrap32 (((Utf8.decode (a0.extract (a1 : Int).toNat a0.size) yb344_0_0).1 : Int) - 48))))) > a3
                              · rw [if_pos c414] at H
                                have c414b0 : decide (a3 < (wrap64 ((wrap64 (10 * x9_0)) + (wrap64 (wrap32 (((Utf8.decode (a0.extract (a1 : Int).toNat a0.size) yb344_0_0).1 : Int) - 48)))))) = true := decide_eq_true c414
                                have hc414 := hid c414
                                clear c414
                                simp only [Option.some.injEq, Prod.mk.injEq] at H
                                obtain ⟨rfl, rfl, rfl⟩ := H
                                go_wp2_with (first
                                  | ((with_reducible refine gate_d (N := 38) rfl ?_); refine ag_next_y (a0.extract (a1 : Int).toNat a0.size) gb344 yb344_0_0 BKb344.out hc378.out rfl _ rfl rfl ?_; intro w415 ho_ hB_; replace BKb333 := hid (BKb333.out.off ho_ NBb333_b344.out); replace HL := hid (ho_.below HL.out GEb344.out); replace BKb344 := hid hB_; clear ho_ hB_)
                                  | ((with_reducible refine gate_d (N := 81) rfl ?_); refine ag_build (.agg #[.int .i64 (wrap64 (a1 + (yb344_0_0 : Int))), .int .i64 0, .int .i64 2]) _ rfl rfl ?_ ?_; (intro ww_; simp only [List.map_toArray, List.map_cons, List.map_nil]; kernel_rfl))
                                  | ((with_reducible refine gate_s (t := 26) (p := 8) rfl ?_); refine ag_store aT26 gb333 0 #[.int .i64 0, .int .i64 0, .int .i64 0] #[.int .i64 (wrap64 (a1 + (yb344_0_0 : Int))), .int .i64 0, .int .i64 2] #[.int .i64 (wrap64 (a1 + (yb344_0_0 : Int))), .int .i64 0, .int .i64 2] BKb333.out rfl (by simp) (by intro v_ hv_; simp at hv_; rcases hv_ with rfl | rfl | rfl <;> first | rfl) rfl rfl _ _ rfl rfl rfl ?_; intro w416 ho_ hB_; replace BKb344 := hid (BKb344.out.off ho_ NBb344_b333.out); replace HL := hid (ho_.below HL.out GEb333.out); replace BKb333 := hid hB_; clear ho_ hB_))
                                (try simp only [Act.put, List.setIfInBounds_toArray, List.set_cons_zero, List.set_cons_succ])
                                refine bodyPost_ret (v := .agg #[.int .i64 (wrap64 (a1 + (yb344_0_0 : Int))), .int .i64 0, .int .i64 2]) (res_c aT26 rfl _ gb333 #[.int .i64 (wrap64 (a1 + (yb344_0_0 : Int))), .int .i64 0, .int .i64 2] BKb333.out rfl rfl) rfl ?_
                                exact ⟨by first | rfl | (simp; done) | (simp [*]; done), HL.out⟩
                              · rw [if_neg c414] at H
                                have c414b0 : decide (a3 < (wrap64 ((wrap64 (10 * x9_0)) + (wrap64 (wrap32 (((Utf8.decode (a0.extract (a1 : Int).toNat a0.size) yb344_0_0).1 : Int) - 48)))))) = false := decide_eq_false c414
                                have hc414 := hid c414
                                clear c414
                                have H' := hid H
                                clear H
                                go_wp2_with (first
                                  | ((with_reducible refine gate_d (N := 38) rfl ?_); refine ag_next_y (a0.extract (a1 : Int).toNat a0.size) gb344 yb344_0_0 BKb344.out hc378.out rfl _ rfl rfl ?_; intro w417 ho_ hB_; replace BKb333 := hid (BKb333.out.off ho_ NBb333_b344.out); replace HL := hid (ho_.below HL.out GEb344.out); replace BKb344 := hid hB_; clear ho_ hB_))
                                (try simp only [Act.put, List.setIfInBounds_toArray, List.set_cons_zero, List.set_cons_succ])
                                go_roundg k377
                                case measure => have := HK376.out; omega
                                case rel => exact ⟨wrap64 ((wrap64 (10 * x9_0)) + (wrap64 (wrap32 (((Utf8.decode (a0.extract (a1 : Int).toNat a0.size) yb344_0_0).1 : Int) - 48)))), x10_0, (yb344_0_0 + (Utf8.decode (a0.extract (a1 : Int).toNat a0.size) yb344_0_0).2), (by first | rfl | (simp; done) | (simp [*]; done)), (by first | rfl | (simp; done) | (simp [*]; done)), H', (hid (by first | omega | (have := HK376.out; omega))), (hid (by exact BKb333.out)), (hid (by exact BKb344.out)), HL⟩
                        · rw [if_neg c409] at H
                          have c409b0 : decide (0 < (yb344_0_0 : Int)) = false := decide_eq_false c409
                          have c409b1 : decide (0 < yb344_0_0) = false := decide_eq_false (by omega)
                          have hc409 := hid c409
                          clear c409
                          by_cases c418 : (yb344_0_0 : Int) = 0
                          · rw [if_pos c418] at H
                            have c418b0 : ((yb344_0_0 : Int) == 0) = true := beq_iff_eq.mpr c418
                            have c418b1 : ((yb344_0_0 : Int) != 0) = false := bne_eq_false_iff_eq.mpr c418
                            have c418b2 : (yb344_0_0 == 0) = true := by first | simpa using c418 | (simp at c418 ⊢; omega)
                            have c418b3 : (yb344_0_0 != 0) = false := by first | simpa using c418 | (simp at c418 ⊢; omega)
                            have hc418 := hid c418
                            clear c418
                            by_cases c419 : 1 < a2
                            · rw [if_pos c419] at H
                              have c419b0 : decide (1 < a2) = true := decide_eq_true c419
                              have c419b1 : (if 1 < a2 then 1 else a2) = 1 := if_pos c419
                              have c419b2 : min a2 1 = 1 := by omega
                              have hc419 := hid c419
                              clear c419
                              by_cases c420 : (wrap64 ((wrap64 (10 * x9_0)) + (wrap64 (wrap32 (((Utf8.decode (a0.extract (a1 : Int).toNat a0.size) yb344_0_0).1 : Int) - 48))))) < 1
                              · rw [if_pos c420] at H
                                have c420b0 : decide ((wrap64 ((wrap64 (10 * x9_0)) + (wrap64 (wrap32 (((Utf8.decode (a0.extract (a1 : Int).toNat a0.size) yb344_0_0).1 : Int) - 48))))) < 1) = true := decide_eq_true c420
                                have hc420 := hid c420
                                clear c420
                                simp only [Option.some.injEq, Prod.mk.injEq] at H
                                obtain ⟨rfl, rfl, rfl⟩ := H
                                go_wp2_with (first
                                  | ((with_reducible refine gate_d (N := 38) rfl ?_); refine ag_next_y (a0.extract (a1 : Int).toNat a0.size) gb344 yb344_0_0 BKb344.out hc378.out rfl _ rfl rfl ?_; intro w421 ho_ hB_; replace BKb333 := hid (BKb333.out.off ho_ NBb333_b344.out); replace HL := hid (ho_.below HL.out GEb344.out); replace BKb344 := hid hB_; clear ho_ hB_)
                                  | ((with_reducible refine gate_d (N := 81) rfl ?_); refine ag_build (.agg #[.int .i64 (wrap64 (a1 + (yb344_0_0 : Int))), .int .i64 0, .int .i64 2]) _ rfl rfl ?_ ?_; (intro ww_; simp only [List.map_toArray, List.map_cons, List.map_nil]; kernel_rfl))
                                  | ((with_reducible refine gate_s (t := 26) (p := 8) rfl ?_); refine ag_store aT26 gb333 0 #[.int .i64 0, .int .i64 0, .int .i64 0] #[.int .i64 (wrap64 (a1 + (yb344_0_0 : Int))), .int .i64 0, .int .i64 2] #[.int .i64 (wrap64 (a1 + (yb344_0_0 : Int))), .int .i64 0, .int .i64 2] BKb333.out rfl (by simp) (by intro v_ hv_; simp at hv_; rcases hv_ with rfl | rfl | rfl <;> first | rfl) rfl rfl _ _ rfl rfl rfl ?_; intro w422 ho_ hB_; replace BKb344 := hid (BKb344.out.off ho_ NBb344_b333.out); replace HL := hid (ho_.below HL.out GEb333.out); replace BKb333 := hid hB_; clear ho_ hB_))
                                (try simp only [Act.put, List.setIfInBounds_toArray, List.set_cons_zero, List.set_cons_succ])
                                refine bodyPost_ret (v := .agg #[.int .i64 (wrap64 (a1 + (yb344_0_0 : Int))), .int .i64 0, .int .i64 2]) (res_c aT26 rfl _ gb333 #[.int .i64 (wrap64 (a1 + (yb344_0_0 : Int))), .int .i64 0, .int .i64 2] BKb333.out rfl rfl) rfl ?_
                                exact ⟨by first | rfl | (simp; done) | (simp [*]; done), HL.out⟩
                              · rw [if_neg c420] at H
                                have c420b0 : decide ((wrap64 ((wrap64 (10 * x9_0)) + (wrap64 (wrap32 (((Utf8.decode (a0.extract (a1 : Int).toNat a0.size) yb344_0_0).1 : Int) - 48))))) < 1) = false := decide_eq_false c420
                                have hc420 := hid c420
                                clear c420
                                by_cases c423 : (wrap64 ((wrap64 (10 * x9_0)) + (wrap64 (wrap32 (((Utf8.decode (a0.extract (a1 : Int).toNat a0.size) yb344_0_0).1 : Int) - 48))))) > a3
                                · rw [if_pos c423] at H
                                  have c423b0 : decide (a3 < (wrap64 ((wrap64 (10 * x9_0)) + (wrap64 (wrap32 (((Utf8.decode (a0.extract (a1 : Int).toNat a0.size) yb344_0_0).1 : Int) - 48)))))) = true := decide_eq_true c423
                                  have hc423 := hid c423
                                  clear c423
                                  simp only [Option.some.injEq, Prod.mk.injEq] at H
                                  obtain ⟨rfl, rfl, rfl⟩ := H
                                  go_wp2_with (first
                                    | ((with_reducible refine gate_d (N := 38) rfl ?_); refine ag_next_y (a0.extract (a1 : Int).toNat a0.size) gb344 yb344_0_0 BKb344.out hc378.out rfl _ rfl rfl ?_; intro w424 ho_ hB_; replace BKb333 := hid (BKb333.out.off ho_ NBb333_b344.out); replace HL := hid (ho_.below HL.out GEb344.out); replace BKb344 := hid hB_; clear ho_ hB_)
                                    | ((with_reducible refine gate_d (N := 81) rfl ?_); refine ag_build (.agg #[.int .i64 (wrap64 (a1 + (yb344_0_0 : Int))), .int .i64 0, .int .i64 2]) _ rfl rfl ?_ ?_; (intro ww_; simp only [List.map_toArray, List.map_cons, List.map_nil]; kernel_rfl))
                                    | ((with_reducible refine gate_s (t := 26) (p := 8) rfl ?_); refine ag_store aT26 gb333 0 #[.int .i64 0, .int .i64 0, .int .i64 0] #[.int .i64 (wrap64 (a1 + (yb344_0_0 : Int))), .int .i64 0, .int .i64 2] #[.int .i64 (wrap64 (a1 + (yb344_0_0 : Int))), .int .i64 0, .int .i64 2] BKb333.out rfl (by simp) (by intro v_ hv_; simp at hv_; rcases hv_ with rfl | rfl | rfl <;> first | rfl) rfl rfl _ _ rfl rfl rfl ?_; intro w425 ho_ hB_; replace BKb344 := hid (BKb344.out.off ho_ NBb344_b333.out); replace HL := hid (ho_.below HL.out GEb333.out); replace BKb333 := hid hB_; clear ho_ hB_))
                                  (try simp only [Act.put, List.setIfInBounds_toArray, List.set_cons_zero, List.set_cons_succ])
                                  refine bodyPost_ret (v := .agg #[.int .i64 (wrap64 (a1 + (yb344_0_0 : Int))), .int .i64 0, .int .i64 2]) (res_c aT26 rfl _ gb333 #[.int .i64 (wrap64 (a1 + (yb344_0_0 : Int))), .int .i64 0, .int .i64 2] BKb333.out rfl rfl) rfl ?_
                                  exact ⟨by first | rfl | (simp; done) | (simp [*]; done), HL.out⟩
                                · rw [if_neg c423] at H
                                  have c423b0 : decide (a3 < (wrap64 ((wrap64 (10 * x9_0)) + (wrap64 (wrap32 (((Utf8.decode (a0.extract (a1 : Int).toNat a0.size) yb344_0_0).1 : Int) - 48)))))) = false := decide_eq_false c423
                                  have hc423 := hid c423
                                  clear c423
                                  have H' := hid H
                                  clear H
                                  go_wp2_with (first
                                    | ((with_reducible refine gate_d (N := 38) rfl ?_); refine ag_next_y (a0.extract (a1 : Int).toNat a0.size) gb344 yb344_0_0 BKb344.out hc378.out rfl _ rfl rfl ?_; intro w426 ho_ hB_; replace BKb333 := hid (BKb333.out.off ho_ NBb333_b344.out); replace HL := hid (ho_.below HL.out GEb344.out); replace BKb344 := hid hB_; clear ho_ hB_))
                                  (try simp only [Act.put, List.setIfInBounds_toArray, List.set_cons_zero, List.set_cons_succ])
                                  go_roundg k377
                                  case measure => have := HK376.out; omega
                                  case rel => exact ⟨wrap64 ((wrap64 (10 * x9_0)) + (wrap64 (wrap32 (((Utf8.decode (a0.extract (a1 : Int).toNat a0.size) yb344_0_0).1 : Int) - 48)))), x10_0, (yb344_0_0 + (Utf8.decode (a0.extract (a1 : Int).toNat a0.size) yb344_0_0).2), (by first | rfl | (simp; done) | (simp [*]; done)), (by first | rfl | (simp; done) | (simp [*]; done)), H', (hid (by first | omega | (have := HK376.out; omega))), (hid (by exact BKb333.out)), (hid (by exact BKb344.out)), HL⟩
                            · rw [if_neg c419] at H
                              have c419b0 : decide (1 < a2) = false := decide_eq_false c419
                              have c419b1 : (if 1 < a2 then 1 else a2) = a2 := if_neg c419
                              have c419b2 : min a2 1 = a2 := by omega
                              have hc419 := hid c419
                              clear c419
                              by_cases c427 : (wrap64 ((wrap64 (10 * x9_0)) + (wrap64 (wrap32 (((Utf8.decode (a0.extract (a1 : Int).toNat a0.size) yb344_0_0).1 : Int) - 48))))) < a2
                              · rw [if_pos c427] at H
                                have c427b0 : decide ((wrap64 ((wrap64 (10 * x9_0)) + (wrap64 (wrap32 (((Utf8.decode (a0.extract (a1 : Int).toNat a0.size) yb344_0_0).1 : Int) - 48))))) < a2) = true := decide_eq_true c427
                                have hc427 := hid c427
                                clear c427
                                simp only [Option.some.injEq, Prod.mk.injEq] at H
                                obtain ⟨rfl, rfl, rfl⟩ := H
                                go_wp2_with (first
                                  | ((with_reducible refine gate_d (N := 38) rfl ?_); refine ag_next_y (a0.extract (a1 : Int).toNat a0.size) gb344 yb344_0_0 BKb344.out hc378.out rfl _ rfl rfl ?_; intro w428 ho_ hB_; replace BKb333 := hid (BKb333.out.off ho_ NBb333_b344.out); replace HL := hid (ho_.below HL.out GEb344.out); replace BKb344 := hid hB_; clear ho_ hB_)
                                  | ((with_reducible refine gate_d (N := 81) rfl ?_); refine ag_build (.agg #[.int .i64 (wrap64 (a1 + (yb344_0_0 : Int))), .int .i64 0, .int .i64 2]) _ rfl rfl ?_ ?_; (intro ww_; simp only [List.map_toArray, List.map_cons, List.map_nil]; kernel_rfl))
                                  | ((with_reducible refine gate_s (t := 26) (p := 8) rfl ?_); refine ag_store aT26 gb333 0 #[.int .i64 0, .int .i64 0, .int .i64 0] #[.int .i64 (wrap64 (a1 + (yb344_0_0 : Int))), .int .i64 0, .int .i64 2] #[.int .i64 (wrap64 (a1 + (yb344_0_0 : Int))), .int .i64 0, .int .i64 2] BKb333.out rfl (by simp) (by intro v_ hv_; simp at hv_; rcases hv_ with rfl | rfl | rfl <;> first | rfl) rfl rfl _ _ rfl rfl rfl ?_; intro w429 ho_ hB_; replace BKb344 := hid (BKb344.out.off ho_ NBb344_b333.out); replace HL := hid (ho_.below HL.out GEb333.out); replace BKb333 := hid hB_; clear ho_ hB_))
                                (try simp only [Act.put, List.setIfInBounds_toArray, List.set_cons_zero, List.set_cons_succ])
                                refine bodyPost_ret (v := .agg #[.int .i64 (wrap64 (a1 + (yb344_0_0 : Int))), .int .i64 0, .int .i64 2]) (res_c aT26 rfl _ gb333 #[.int .i64 (wrap64 (a1 + (yb344_0_0 : Int))), .int .i64 0, .int .i64 2] BKb333.out rfl rfl) rfl ?_
                                exact ⟨by first | rfl | (simp; done) | (simp [*]; done), HL.out⟩
                              · rw [if_neg c427] at H
                                have c427b0 : decide ((wrap64 ((wrap64 (10 * x9_0)) + (wrap64 (wrap32 (((Utf8.decode (a0.extract (a1 : Int).toNat a0.size) yb344_0_0).1 : Int) - 48))))) < a2) = false := decide_eq_false c427
                                have hc427 := hid c427
                                clear c427
                                by_cases c430 : (wrap64 ((wrap64 (10 * x9_0)) + (wrap64 (wrap32 (((Utf8.decode (a0.extract (a1 : Int).toNat a0.size) yb344_0_0).1 : Int) - 48))))) > a3
                                · rw [if_pos c430] at H
                                  have c430b0 : decide (a3 < (wrap64 ((wrap64 (10 * x9_0)) + (wrap64 (wrap32 (((Utf8.decode (a0.extract (a1 : Int).toNat a0.size) yb344_0_0).1 : Int) - 48)))))) = true := decide_eq_true c430
                                  have hc430 := hid c430
                                  clear c430
                                  simp only [Option.some.injEq, Prod.mk.injEq] at H
                                  obtain ⟨rfl, rfl, rfl⟩ := H
                                  go_wp2_with (first
                                    | ((with_reducible refine gate_d (N := 38) rfl ?_); refine ag_next_y (a0.extract (a1 : Int).toNat a0.size) gb344 yb344_0_0 BKb344.out hc378.out rfl _ rfl rfl ?_; intro w431 ho_ hB_; replace BKb333 := hid (BKb333.out.off ho_ NBb333_b344.out); replace HL := hid (ho_.below HL.out GEb344.out); replace BKb344 := hid hB_; clear ho_ hB_)
                                    | ((with_reducible refine gate_d (N := 81) rfl ?_); refine ag_build (.agg #[.int .i64 (wrap64 (a1 + (yb344_0_0 : Int))), .int .i64 0, .int .i64 2]) _ rfl rfl ?_ ?_; (intro ww_; simp only [List.map_toArray, List.map_cons, List.map_nil]; kernel_rfl))
                                    | ((with_reducible refine gate_s (t := 26) (p := 8) rfl ?_); refine ag_store aT26 gb333 0 #[.int .i64 0, .int .i64 0, .int .i64 0] #[.int .i64 (wrap64 (a1 + (yb344_0_0 : Int))), .int .i64 0, .int .i64 2] #[.int .i64 (wrap64 (a1 + (yb344_0_0 : Int))), .int .i64 0, .int .i64 2] BKb333.out rfl (by simp) (by intro v_ hv_; simp at hv_; rcases hv_ with rfl | rfl | rfl <;> first | rfl) rfl rfl _ _ rfl rfl rfl ?_; intro w432 ho_ hB_; replace BKb344 := hid (BKb344.out.off ho_ NBb344_b333.out); replace HL := hid (ho_.below HL.out GEb333.out); replace BKb333 := hid hB_; clear ho_ hB_))
                                  (try simp only [Act.put, List.setIfInBounds_toArray, List.set_cons_zero, List.set_cons_succ])
                                  refine bodyPost_ret (v := .agg #[.int .i64 (wrap64 (a1 + (yb344_0_0 : Int))), .int .i64 0, .int .i64 2]) (res_c aT26 rfl _ gb333 #[.int .i64 (wrap64 (a1 + (yb344_0_0 : Int))), .int .i64 0, .int .i64 2] BKb333.out rfl rfl) rfl ?_
                                  exact ⟨by first | rfl | (simp; done) | (simp [*]; done), HL.out⟩
                                · rw [if_neg c430] at H
                                  have c430b0 : decide (a3 < (wrap64 ((wrap64 (10 * x9_0)) + (wrap64 (wrap32 (((Utf8.decode (a0.extract (a1 : Int).toNat a0.size) yb344_0_0).1 : Int) - 48)))))) = false := decide_eq_false c430
                                  have hc430 := hid c430
                                  clear c430
                                  have H' := hid H
                                  clear H
                                  go_wp2_with (first
                                    | ((with_reducible refine gate_d (N := 38) rfl ?_); refine ag_next_y (a0.extract (a1 : Int).toNat a0.size) gb344 yb344_0_0 BKb344.out hc378.out rfl _ rfl rfl ?_; intro w433 ho_ hB_; replace BKb333 := hid (BKb333.out.off ho_ NBb333_b344.out); replace HL := hid (ho_.below HL.out GEb344.out); replace BKb344 := hid hB_; clear ho_ hB_))
                                  (try simp only [Act.put, List.setIfInBounds_toArray, List.set_cons_zero, List.set_cons_succ])
                                  go_roundg k377
                                  case measure => have := HK376.out; omega
                                  case rel => exact ⟨wrap64 ((wrap64 (10 * x9_0)) + (wrap64 (wrap32 (((Utf8.decode (a0.extract (a1 : Int).toNat a0.size) yb344_0_0).1 : Int) - 48)))), x10_0, (yb344_0_0 + (Utf8.decode (a0.extract (a1 : Int).toNat a0.size) yb344_0_0).2), (by first | rfl | (simp; done) | (simp [*]; done)), (by first | rfl | (simp; done) | (simp [*]; done)), H', (hid (by first | omega | (have := HK376.out; omega))), (hid (by exact BKb333.out)), (hid (by exact BKb344.out)), HL⟩
                          · rw [if_neg c418] at H
                            have c418b0 : ((yb344_0_0 : Int) == 0) = false := beq_eq_false_iff_ne.mpr c418
                            have c418b1 : ((yb344_0_0 : Int) != 0) = true := bne_iff_ne.mpr c418
                            have c418b2 : (yb344_0_0 == 0) = false := by first | simpa using c418 | (simp at c418 ⊢; omega)
                            have c418b3 : (yb344_0_0 != 0) = true := by first | simpa using c418 | (simp at c418 ⊢; omega)
                            have hc418 := hid c418
                            clear c418
                            by_cases c434 : (wrap64 ((wrap64 (10 * x9_0)) + (wrap64 (wrap32 (((Utf8.decode (a0.extract (a1 : Int).toNat a0.size) yb344_0_0).1 : Int) - 48))))) > a3
                            · rw [if_pos c434] at H
                              have c434b0 : decide (a3 < (wrap64 ((wrap64 (10 * x9_0)) + (wrap64 (wrap32 (((Utf8.decode (a0.extract (a1 : Int).toNat a0.size) yb344_0_0).1 : Int) - 48)))))) = true := decide_eq_true c434
                              have hc434 := hid c434
                              clear c434
                              simp only [Option.some.injEq, Prod.mk.injEq] at H
                              obtain ⟨rfl, rfl, rfl⟩ := H
                              go_wp2_with (first
                                | ((with_reducible refine gate_d (N := 38) rfl ?_); refine ag_next_y (a0.extract (a1 : Int).toNat a0.size) gb344 yb344_0_0 BKb344.out hc378.out rfl _ rfl rfl ?_; intro w435 ho_ hB_; replace BKb333 := hid (BKb333.out.off ho_ NBb333_b344.out); replace HL := hid (ho_.below HL.out GEb344.out); replace BKb344 := hid hB_; clear ho_ hB_)
                                | ((with_reducible refine gate_d (N := 81) rfl ?_); refine ag_build (.agg #[.int .i64 (wrap64 (a1 + (yb344_0_0 : Int))), .int .i64 0, .int .i64 2]) _ rfl rfl ?_ ?_; (intro ww_; simp only [List.map_toArray, List.map_cons, List.map_nil]; kernel_rfl))
                                | ((with_reducible refine gate_s (t := 26) (p := 8) rfl ?_); refine ag_store aT26 gb333 0 #[.int .i64 0, .int .i64 0, .int .i64 0] #[.int .i64 (wrap64 (a1 + (yb344_0_0 : Int))), .int .i64 0, .int .i64 2] #[.int .i64 (wrap64 (a1 + (yb344_0_0 : Int))), .int .i64 0, .int .i64 2] BKb333.out rfl (by simp) (by intro v_ hv_; simp at hv_; rcases hv_ with rfl | rfl | rfl <;> first | rfl) rfl rfl _ _ rfl rfl rfl ?_; intro w436 ho_ hB_; replace BKb344 := hid (BKb344.out.off ho_ NBb344_b333.out); replace HL := hid (ho_.below HL.out GEb333.out); replace BKb333 := hid hB_; clear ho_ hB_))
                              (try simp only [Act.put, List.setIfInBounds_toArray, List.set_cons_zero, List.set_cons_succ])
                              refine bodyPost_ret (v := .agg #[.int .i64 (wrap64 (a1 + (yb344_0_0 : Int))), .int .i64 0, .int .i64 2]) (res_c aT26 rfl _ gb333 #[.int .i64 (wrap64 (a1 + (yb344_0_0 : Int))), .int .i64 0, .int .i64 2] BKb333.out rfl rfl) rfl ?_
                              exact ⟨by first | rfl | (simp; done) | (simp [*]; done), HL.out⟩
                            · rw [if_neg c434] at H
                              have c434b0 : decide (a3 < (wrap64 ((wrap64 (10 * x9_0)) + (wrap64 (wrap32 (((Utf8.decode (a0.extract (a1 : Int).toNat a0.size) yb344_0_0).1 : Int) - 48)))))) = false := decide_eq_false c434
                              have hc434 := hid c434
                              clear c434
                              have H' := hid H
                              clear H
                              go_wp2_with (first
                                | ((with_reducible refine gate_d (N := 38) rfl ?_); refine ag_next_y (a0.extract (a1 : Int).toNat a0.size) gb344 yb344_0_0 BKb344.out hc378.out rfl _ rfl rfl ?_; intro w437 ho_ hB_; replace BKb333 := hid (BKb333.out.off ho_ NBb333_b344.out); replace HL := hid (ho_.below HL.out GEb344.out); replace BKb344 := hid hB_; clear ho_ hB_))
                              (try simp only [Act.put, List.setIfInBounds_toArray, List.set_cons_zero, List.set_cons_succ])
                              go_roundg k377
                              case measure => have := HK376.out; omega
                              case rel => exact ⟨wrap64 ((wrap64 (10 * x9_0)) + (wrap64 (wrap32 (((Utf8.decode (a0.extract (a1 : Int).toNat a0.size) yb344_0_0).1 : Int) - 48)))), x10_0, (yb344_0_0 + (Utf8.decode (a0.extract (a1 : Int).toNat a0.size) yb344_0_0).2), (by first | rfl | (simp; done) | (simp [*]; done)), (by first | rfl | (simp; done) | (simp [*]; done)), H', (hid (by first | omega | (have := HK376.out; omega))), (hid (by exact BKb333.out)), (hid (by exact BKb344.out)), HL⟩
                  · rw [if_neg c378] at H
                    have c378b0 : decide (yb344_0_0 < (a0.extract (a1 : Int).toNat a0.size).size) = false := decide_eq_false c378
                    have hc378 := hid c378
                    clear c378
                    by_cases c438 : x10_0 > a1
                    · rw [if_pos c438] at H
                      have c438b0 : decide (a1 < x10_0) = true := decide_eq_true c438
                      have hc438 := hid c438
                      clear c438
                      by_cases c439 : x9_0 ≥ a2
                      · rw [if_pos c439] at H
                        have c439b0 : decide (a2 ≤ x9_0) = true := decide_eq_true c439
                        have hc439 := hid c439
                        clear c439
                        simp only [Option.some.injEq, Prod.mk.injEq] at H
                        obtain ⟨rfl, rfl, rfl⟩ := H
                        go_wp2_with (first
                          | ((with_reducible refine gate_d (N := 38) rfl ?_); refine ag_next_n (a0.extract (a1 : Int).toNat a0.size) gb344 yb344_0_0 BKb344.out hc378.out rfl _ rfl rfl ?_)
                          | ((with_reducible refine gate_d (N := 99) rfl ?_); refine ag_build (.agg #[.int .i64 x10_0, .int .i64 x9_0, .int .i64 0]) _ rfl rfl ?_ ?_; (intro ww_; simp only [List.map_toArray, List.map_cons, List.map_nil]; kernel_rfl))
                          | ((with_reducible refine gate_s (t := 26) (p := 8) rfl ?_); refine ag_store aT26 gb333 0 #[.int .i64 0, .int .i64 0, .int .i64 0] #[.int .i64 x10_0, .int .i64 x9_0, .int .i64 0] #[.int .i64 x10_0, .int .i64 x9_0, .int .i64 0] BKb333.out rfl (by simp) (by intro v_ hv_; simp at hv_; rcases hv_ with rfl | rfl | rfl <;> first | rfl) rfl rfl _ _ rfl rfl rfl ?_; intro w440 ho_ hB_; replace BKb344 := hid (BKb344.out.off ho_ NBb344_b333.out); replace HL := hid (ho_.below HL.out GEb333.out); replace BKb333 := hid hB_; clear ho_ hB_))
                        (try simp only [Act.put, List.setIfInBounds_toArray, List.set_cons_zero, List.set_cons_succ])
                        refine bodyPost_ret (v := .agg #[.int .i64 x10_0, .int .i64 x9_0, .int .i64 0]) (res_c aT26 rfl _ gb333 #[.int .i64 x10_0, .int .i64 x9_0, .int .i64 0] BKb333.out rfl rfl) rfl ?_
                        exact ⟨by first | rfl | (simp; done) | (simp [*]; done), HL.out⟩
                      · rw [if_neg c439] at H
                        have c439b0 : decide (a2 ≤ x9_0) = false := decide_eq_false c439
                        have hc439 := hid c439
                        clear c439
                        by_cases c441 : x10_0 = (a0.size : Int)
                        · rw [if_pos c441] at H
                          have c441b0 : (x10_0 == (a0.size : Int)) = true := beq_iff_eq.mpr c441
                          have c441b1 : (x10_0 != (a0.size : Int)) = false := bne_eq_false_iff_eq.mpr c441
                          have hc441 := hid c441
                          clear c441
                          simp only [Option.some.injEq, Prod.mk.injEq] at H
                          obtain ⟨rfl, rfl, rfl⟩ := H
                          go_wp2_with (first
                            | ((with_reducible refine gate_d (N := 38) rfl ?_); refine ag_next_n (a0.extract (a1 : Int).toNat a0.size) gb344 yb344_0_0 BKb344.out hc378.out rfl _ rfl rfl ?_)
                            | ((with_reducible refine gate_d (N := 106) rfl ?_); refine ag_build (.agg #[.int .i64 x10_0, .int .i64 0, .int .i64 1]) _ rfl rfl ?_ ?_; (intro ww_; simp only [List.map_toArray, List.map_cons, List.map_nil]; kernel_rfl))
                            | ((with_reducible refine gate_s (t := 26) (p := 8) rfl ?_); refine ag_store aT26 gb333 0 #[.int .i64 0, .int .i64 0, .int .i64 0] #[.int .i64 x10_0, .int .i64 0, .int .i64 1] #[.int .i64 x10_0, .int .i64 0, .int .i64 1] BKb333.out rfl (by simp) (by intro v_ hv_; simp at hv_; rcases hv_ with rfl | rfl | rfl <;> first | rfl) rfl rfl _ _ rfl rfl rfl ?_; intro w442 ho_ hB_; replace BKb344 := hid (BKb344.out.off ho_ NBb344_b333.out); replace HL := hid (ho_.below HL.out GEb333.out); replace BKb333 := hid hB_; clear ho_ hB_))
                          (try simp only [Act.put, List.setIfInBounds_toArray, List.set_cons_zero, List.set_cons_succ])
                          refine bodyPost_ret (v := .agg #[.int .i64 x10_0, .int .i64 0, .int .i64 1]) (res_c aT26 rfl _ gb333 #[.int .i64 x10_0, .int .i64 0, .int .i64 1] BKb333.out rfl rfl) rfl ?_
                          exact ⟨by first | rfl | (simp; done) | (simp [*]; done), HL.out⟩
                        · rw [if_neg c441] at H
                          have c441b0 : (x10_0 == (a0.size : Int)) = false := beq_eq_false_iff_ne.mpr c441
                          have c441b1 : (x10_0 != (a0.size : Int)) = true := bne_iff_ne.mpr c441
                          have hc441 := hid c441
                          clear c441
                          simp only [Option.some.injEq, Prod.mk.injEq] at H
                          obtain ⟨rfl, rfl, rfl⟩ := H
                          go_wp2_with (first
                            | ((with_reducible refine gate_d (N := 38) rfl ?_); refine ag_next_n (a0.extract (a1 : Int).toNat a0.size) gb344 yb344_0_0 BKb344.out hc378.out rfl _ rfl rfl ?_)
                            | ((with_reducible refine gate_d (N := 108) rfl ?_); refine ag_build (.agg #[.int .i64 x10_0, .int .i64 0, .int .i64 2]) _ rfl rfl ?_ ?_; (intro ww_; simp only [List.map_toArray, List.map_cons, List.map_nil]; kernel_rfl))
                            | ((with_reducible refine gate_s (t := 26) (p := 8) rfl ?_); refine ag_store aT26 gb333 0 #[.int .i64 0, .int .i64 0, .int .i64 0] #[.int .i64 x10_0, .int .i64 0, .int .i64 2] #[.int .i64 x10_0, .int .i64 0, .int .i64 2] BKb333.out rfl (by simp) (by intro v_ hv_; simp at hv_; rcases hv_ with rfl | rfl | rfl <;> first | rfl) rfl rfl _ _ rfl rfl rfl ?_; intro w443 ho_ hB_; replace BKb344 := hid (BKb344.out.off ho_ NBb344_b333.out); replace HL := hid (ho_.below HL.out GEb333.out); replace BKb333 := hid hB_; clear ho_ hB_))
                          (try simp only [Act.put, List.setIfInBounds_toArray, List.set_cons_zero, List.set_cons_succ])
                          refine bodyPost_ret (v := .agg #[.int .i64 x10_0, .int .i64 0, .int .i64 2]) (res_c aT26 rfl _ gb333 #[.int .i64 x10_0, .int .i64 0, .int .i64 2] BKb333.out rfl rfl) rfl ?_
                          exact ⟨by first | rfl | (simp; done) | (simp [*]; done), HL.out⟩
                    · rw [if_neg c438] at H
                      have c438b0 : decide (a1 < x10_0) = false := decide_eq_false c438
                      have hc438 := hid c438
                      clear c438
                      by_cases c444 : x10_0 = (a0.size : Int)
                      · rw [if_pos c444] at H
                        have c444b0 : (x10_0 == (a0.size : Int)) = true := beq_iff_eq.mpr c444
                        have c444b1 : (x10_0 != (a0.size : Int)) = false := bne_eq_false_iff_eq.mpr c444
                        have hc444 := hid c444
                        clear c444
                        simp only [Option.some.injEq, Prod.mk.injEq] at H
                        obtain ⟨rfl, rfl, rfl⟩ := H
                        go_wp2_with (first
                          | ((with_reducible refine gate_d (N := 38) rfl ?_); refine ag_next_n (a0.extract (a1 : Int).toNat a0.size) gb344 yb344_0_0 BKb344.out hc378.out rfl _ rfl rfl ?_)
                          | ((with_reducible refine gate_d (N := 106) rfl ?_); refine ag_build (.agg #[.int .i64 x10_0, .int .i64 0, .int .i64 1]) _ rfl rfl ?_ ?_; (intro ww_; simp only [List.map_toArray, List.map_cons, List.map_nil]; kernel_rfl))
                          | ((with_reducible refine gate_s (t := 26) (p := 8) rfl ?_); refine ag_store aT26 gb333 0 #[.int .i64 0, .int .i64 0, .int .i64 0] #[.int .i64 x10_0, .int .i64 0, .int .i64 1] #[.int .i64 x10_0, .int .i64 0, .int .i64 1] BKb333.out rfl (by simp) (by intro v_ hv_; simp at hv_; rcases hv_ with rfl | rfl | rfl <;> first | rfl) rfl rfl _ _ rfl rfl rfl ?_; intro w445 ho_ hB_; replace BKb344 := hid (BKb344.out.off ho_ NBb344_b333.out); replace HL := hid (ho_.below HL.out GEb333.out); replace BKb333 := hid hB_; clear ho_ hB_))
                        (try simp only [Act.put, List.setIfInBounds_toArray, List.set_cons_zero, List.set_cons_succ])
                        refine bodyPost_ret (v := .agg #[.int .i64 x10_0, .int .i64 0, .int .i64 1]) (res_c aT26 rfl _ gb333 #[.int .i64 x10_0, .int .i64 0, .int .i64 1] BKb333.out rfl rfl) rfl ?_
                        exact ⟨by first | rfl | (simp; done) | (simp [*]; done), HL.out⟩
                      · rw [if_neg c444] at H
                        have c444b0 : (x10_0 == (a0.size : Int)) = false := beq_eq_false_iff_ne.mpr c444
                        have c444b1 : (x10_0 != (a0.size : Int)) = true := bne_iff_ne.mpr c444
                        have hc444 := hid c444
                        clear c444
                        simp only [Option.some.injEq, Prod.mk.injEq] at H
                        obtain ⟨rfl, rfl, rfl⟩ := H
                        go_wp2_with (first
                          | ((with_reducible refine gate_d (N := 38) rfl ?_); refine ag_next_n (a0.extract (a1 : Int).toNat a0.size) gb344 yb344_0_0 BKb344.out hc378.out rfl _ rfl rfl ?_)
                          | ((with_reducible refine gate_d (N := 108) rfl ?_); refine ag_build (.agg #[.int .i64 x10_0, .int .i64 0, .int .i64 2]) _ rfl rfl ?_ ?_; (intro ww_; simp only [List.map_toArray, List.map_cons, List.map_nil]; kernel_rfl))
                          | ((with_reducible refine gate_s (t := 26) (p := 8) rfl ?_); refine ag_store aT26 gb333 0 #[.int .i64 0, .int .i64 0, .int .i64 0] #[.int .i64 x10_0, .int .i64 0, .int .i64 2] #[.int .i64 x10_0, .int .i64 0, .int .i64 2] BKb333.out rfl (by simp) (by intro v_ hv_; simp at hv_; rcases hv_ with rfl | rfl | rfl <;> first | rfl) rfl rfl _ _ rfl rfl rfl ?_; intro w446 ho_ hB_; replace BKb344 := hid (BKb344.out.off ho_ NBb344_b333.out); replace HL := hid (ho_.below HL.out GEb333.out); replace BKb333 := hid hB_; clear ho_ hB_))
                        (try simp only [Act.put, List.setIfInBounds_toArray, List.set_cons_zero, List.set_cons_succ])
                        refine bodyPost_ret (v := .agg #[.int .i64 x10_0, .int .i64 0, .int .i64 2]) (res_c aT26 rfl _ gb333 #[.int .i64 x10_0, .int .i64 0, .int .i64 2] BKb333.out rfl rfl) rfl ?_
                        exact ⟨by first | rfl | (simp; done) | (simp [*]; done), HL.out⟩
            · rw [if_neg c372] at H
              exact absurd H (by simp)
          · rw [if_neg c371] at H
            exact absurd H (by simp)
  | false =>
    rw [if_neg (show ¬ (false = true) by decide)] at H
    replace H := Option.bind_eq_some_iff.mp H
    obtain ⟨⟨t345, t346, t347⟩, A447_, H⟩ := H
    replace H : (some (t345, t346, t347)) = some (r1, r2, r3) := H
    have A447 := hid A447_
    clear A447_
    simp only [Option.some.injEq, Prod.mk.injEq] at H
    obtain ⟨rfl, rfl, rfl⟩ := H
    go_enter Try.func14, Try.ntmps14
    have k449 := True.intro
    have k450 := True.intro
    go_wp2_with (first
      | ((with_reducible refine gate_d (N := 8) rfl ?_); obtain ⟨gb333, hgb333⟩ : ∃ g_, w.heap.size = g_ := ⟨_, rfl⟩; refine ag_alloc aT26 gb333 hgb333 rfl rfl ?_; intro w448 hb_ hB_ hs_; have GEb333 : Hid (w.heap.size ≤ gb333) := hid (by have := HL.out.size; omega); replace HL := hid (HL.out.trans (hb_.mono GEb333.out)); have BKb333 := hid hB_; clear hb_ hB_ hs_ hgb333)
      | (go_at_call 27; clear k449; refine (i_lex_there.calls a0 a1 false _ A348.out).mono ?_; rintro e_ w' ⟨rfl, rfl⟩)
      | (go_at_call 28; clear k450; refine (i_lex_wrong.calls t345 t346 t347 _ A447.out).mono ?_; rintro e_ w451 ⟨rfl, hb_⟩; replace BKb333 := hid (BKb333.out.below hb_ BKb333.out.lt); replace HL := hid (HL.out.trans (hb_.mono HL.out.size)); clear hb_)
      | ((with_reducible refine gate_s (t := 26) (p := 8) rfl ?_); refine ag_store aT26 gb333 0 #[.int .i64 0, .int .i64 0, .int .i64 0] #[.int .i64 t345, .int .i64 t346, .int .i64 t347] #[.int .i64 t345, .int .i64 t346, .int .i64 t347] BKb333.out rfl (by simp) (by intro v_ hv_; simp at hv_; rcases hv_ with rfl | rfl | rfl <;> first | rfl) rfl rfl _ _ rfl rfl rfl ?_; intro w452 ho_ hB_; replace HL := hid (ho_.below HL.out GEb333.out); replace BKb333 := hid hB_; clear ho_ hB_))
    (try simp only [Act.put, List.setIfInBounds_toArray, List.set_cons_zero, List.set_cons_succ])
    refine bodyPost_ret (v := .agg #[.int .i64 t345, .int .i64 t346, .int .i64 t347]) (res_c aT26 rfl _ gb333 #[.int .i64 t345, .int .i64 t346, .int .i64 t347] BKb333.out rfl rfl) rfl ?_
    exact ⟨by first | rfl | (simp; done) | (simp [*]; done), HL.out⟩
end Go.Proofs.Ytabbkeliknidgaa
