/- The walks of lines that are read, of the law LexSquares. -/
import Derived.Test.YtabbkeliknidgaaProg
import Derived.Test.YtabbkeliknidgaaL4w
import Derived.Test.YtabbkeliknidgaaL5w
import Derived.Test.YtabbkeliknidgaaIb
namespace Go.Proofs.Ytabbkeliknidgaa
open Go.RowKit
set_option linter.unusedVariables false
set_option linter.unusedSimpArgs false
theorem fa38_0_0 (g : Nat) (w : World) : (Instr.fieldAt 38 (.pointer (some ⟨g, 0, none⟩)) 0).run Try.prog w = .ok (.pointer (some ⟨g, 0, none⟩)) w := by kernel_rfl
theorem fa38_1_0 (g : Nat) (w : World) : (Instr.fieldAt 38 (.pointer (some ⟨g, 0, none⟩)) 1).run Try.prog w = .ok (.pointer (some ⟨g, 1, none⟩)) w := by kernel_rfl
/-! i_lex_Line: function 17 -/
def i_lex_Line.f (a0 : ByteArray) (a1 : Int) : Option (ByteArray × Int × Int × Int) := (i_lex_there.f a0 a1).bind fun t3200 => (if t3200 = true then (if 0 ≤ a1 then (if a1 ≤ (a0.size : Int) then (if (ixB (a0.extract (a1 : Int).toNat a0.size) 10) < 0 then (some (a0.extract (a1 : Int).toNat a0.size, (a0.size : Int), 0, 1)) else (if a1 ≤ (wrap64 (a1 + (ixB (a0.extract (a1 : Int).toNat a0.size) 10))) then (if (wrap64 (a1 + (ixB (a0.extract (a1 : Int).toNat a0.size) 10))) ≤ (a0.size : Int) then (some (a0.extract (a1 : Int).toNat ((wrap64 (a1 + (ixB (a0.extract (a1 : Int).toNat a0.size) 10))) : Int).toNat, wrap64 ((wrap64 (a1 + (ixB (a0.extract (a1 : Int).toNat a0.size) 10))) + 1), 0, 0)) else (none)) else (none))) else (none)) else (none)) else ((i_lex_wrong.f).bind fun bt3201 => (some ((⟨#[]⟩ : ByteArray), bt3201.1, bt3201.2.1, bt3201.2.2))))
set_option maxHeartbeats 40000000 in
set_option maxRecDepth 100000 in
theorem i_lex_Line.calls (a0 : ByteArray) (a1 : Int) (r1 : ByteArray) (r2 : Int) (r3 : Int) (r4 : Int) (w : World) (h : i_lex_Line.f a0 a1 = some (r1, r2, r3, r4)) :
    Calls Try.prog 17 #[.string a0, .int .i64 a1] w fun e w' => e = .returned (.tuple #[.string r1, .agg #[.int .i64 r2, .int .i64 r3, .int .i64 r4]]) ∧ Below w.heap.size w w' := by
  have HL := hid (Below.refl w.heap.size w)
  have H : ((i_lex_there.f a0 a1).bind fun t3200 => (if t3200 = true then (if 0 ≤ a1 then (if a1 ≤ (a0.size : Int) then (if (ixB (a0.extract (a1 : Int).toNat a0.size) 10) < 0 then (some (a0.extract (a1 : Int).toNat a0.size, (a0.size : Int), 0, 1)) else (if a1 ≤ (wrap64 (a1 + (ixB (a0.extract (a1 : Int).toNat a0.size) 10))) then (if (wrap64 (a1 + (ixB (a0.extract (a1 : Int).toNat a0.size) 10))) ≤ (a0.size : Int) then (some (a0.extract (a1 : Int).toNat ((wrap64 (a1 + (ixB (a0.extract (a1 : Int).toNat a0.size) 10))) : Int).toNat, wrap64 ((wrap64 (a1 + (ixB (a0.extract (a1 : Int).toNat a0.size) 10))) + 1), 0, 0)) else (none)) else (none))) else (none)) else (none)) else ((i_lex_wrong.f).bind fun bt3201 => (some ((⟨#[]⟩ : ByteArray), bt3201.1, bt3201.2.1, bt3201.2.2))))) = some (r1, r2, r3, r4) := h
  clear h
  replace H := Option.bind_eq_some_iff.mp H
  obtain ⟨t3200, A3204_, H⟩ := H
  replace H : (if t3200 = true then (if 0 ≤ a1 then (if a1 ≤ (a0.size : Int) then (if (ixB (a0.extract (a1 : Int).toNat a0.size) 10) < 0 then (some (a0.extract (a1 : Int).toNat a0.size, (a0.size : Int), 0, 1)) else (if a1 ≤ (wrap64 (a1 + (ixB (a0.extract (a1 : Int).toNat a0.size) 10))) then (if (wrap64 (a1 + (ixB (a0.extract (a1 : Int).toNat a0.size) 10))) ≤ (a0.size : Int) then (some (a0.extract (a1 : Int).toNat ((wrap64 (a1 + (ixB (a0.extract (a1 : Int).toNat a0.size) 10))) : Int).toNat, wrap64 ((wrap64 (a1 + (ixB (a0.extract (a1 : Int).toNat a0.size) 10))) + 1), 0, 0)) else (none)) else (none))) else (none)) else (none)) else ((i_lex_wrong.f).bind fun bt3201 => (some ((⟨#[]⟩ : ByteArray), bt3201.1, bt3201.2.1, bt3201.2.2)))) = some (r1, r2, r3, r4) := H
  have A3204 := hid A3204_
  clear A3204_
  cases t3200 with
  | true =>
    rw [if_pos rfl] at H
    by_cases c3206 : 0 ≤ a1
    · rw [if_pos c3206] at H
      have c3206b0 : decide (0 ≤ a1) = true := decide_eq_true c3206
      have hc3206 := hid c3206
      clear c3206
      by_cases c3207 : a1 ≤ (a0.size : Int)
      · rw [if_pos c3207] at H
        have c3207b0 : decide (a1 ≤ (a0.size : Int)) = true := decide_eq_true c3207
        have hc3207 := hid c3207
        clear c3207
        by_cases c3208 : (ixB (a0.extract (a1 : Int).toNat a0.size) 10) < 0
        · rw [if_pos c3208] at H
          have c3208b0 : decide ((ixB (a0.extract (a1 : Int).toNat a0.size) 10) < 0) = true := decide_eq_true c3208
          have hc3208 := hid c3208
          clear c3208
          simp only [Option.some.injEq, Prod.mk.injEq] at H
          obtain ⟨rfl, rfl, rfl, rfl⟩ := H
          go_enter Try.func17, Try.ntmps17
          have k3210 := True.intro
          have k3211 := True.intro
          go_wp2_with (first
            | ((with_reducible refine gate_d (N := 5) rfl ?_); obtain ⟨gb3199, hgb3199⟩ : ∃ g_, w.heap.size = g_ := ⟨_, rfl⟩; refine ag_alloc aT26 gb3199 hgb3199 rfl rfl ?_; intro w3209 hb_ hB_ hs_; have GEb3199 : Hid (w.heap.size ≤ gb3199) := hid (by have := HL.out.size; omega); replace HL := hid (HL.out.trans (hb_.mono GEb3199.out)); have BKb3199 := hid hB_; clear hb_ hB_ hs_ hgb3199)
            | (go_at_call 27; clear k3210; refine (i_lex_there.calls a0 a1 true _ A3204.out).mono ?_; rintro e_ w' ⟨rfl, rfl⟩)
            | ((with_reducible refine gate_d (N := 14) rfl ?_); refine ag_fix (.string (a0.extract (a1 : Int).toNat a0.size)) (ex_cut_l 9 und_txt a0 a1  hc3206.out hc3207.out _ _ rfl rfl rfl) rfl ?_)
            | (go_at_call 33; clear k3211; refine (stByte (a0.extract (a1 : Int).toNat a0.size) 10 _).mono ?_; rintro e_ w' ⟨rfl, rfl⟩)
            | ((with_reducible refine gate_d (N := 20) rfl ?_); refine ag_fix (.string (a0.extract (a1 : Int).toNat a0.size)) (ex_cut_l 9 und_txt a0 a1  hc3206.out hc3207.out _ _ rfl rfl rfl) rfl ?_)
            | ((with_reducible refine gate_d (N := 23) rfl ?_); refine ag_build (.agg #[.int .i64 (a0.size : Int), .int .i64 0, .int .i64 1]) _ rfl rfl ?_ ?_; (intro ww_; simp only [List.map_toArray, List.map_cons, List.map_nil]; kernel_rfl))
            | ((with_reducible refine gate_s (t := 26) (p := 5) rfl ?_); refine ag_store aT26 gb3199 0 #[.int .i64 0, .int .i64 0, .int .i64 0] #[.int .i64 (a0.size : Int), .int .i64 0, .int .i64 1] #[.int .i64 (a0.size : Int), .int .i64 0, .int .i64 1] BKb3199.out rfl (by simp) (by intro v_ hv_; simp at hv_; rcases hv_ with rfl | rfl | rfl <;> first | rfl) rfl rfl _ _ rfl rfl rfl ?_; intro w3212 ho_ hB_; replace HL := hid (ho_.below HL.out GEb3199.out); replace BKb3199 := hid hB_; clear ho_ hB_))
          (try simp only [Act.put, List.setIfInBounds_toArray, List.set_cons_zero, List.set_cons_succ])
          refine bodyPost_ret (v := .tuple #[.string (a0.extract (a1 : Int).toNat a0.size), .agg #[.int .i64 (a0.size : Int), .int .i64 0, .int .i64 1]]) (res_tc aT26 rfl _ gb3199 #[.int .i64 (a0.size : Int), .int .i64 0, .int .i64 1] (.string (a0.extract (a1 : Int).toNat a0.size)) BKb3199.out rfl rfl rfl) rfl ?_
          exact ⟨by first | rfl | (simp; done) | (simp [*]; done), HL.out⟩
        · rw [if_neg c3208] at H
          have c3208b0 : decide ((ixB (a0.extract (a1 : Int).toNat a0.size) 10) < 0) = false := decide_eq_false c3208
          have hc3208 := hid c3208
          clear c3208
          by_cases c3213 : a1 ≤ (wrap64 (a1 + (ixB (a0.extract (a1 : Int).toNat a0.size) 10)))
          · rw [if_pos c3213] at H
            have c3213b0 : decide (a1 ≤ (wrap64 (a1 + (ixB (a0.extract (a1 : Int).toNat a0.size) 10)))) = true := decide_eq_true c3213
            have hc3213 := hid c3213
            clear c3213
            by_cases c3214 : (wrap64 (a1 + (ixB (a0.extract (a1 : Int).toNat a0.size) 10))) ≤ (a0.size : Int)
            · rw [if_pos c3214] at H
              have c3214b0 : decide ((wrap64 (a1 + (ixB (a0.extract (a1 : Int).toNat a0.size) 10))) ≤ (a0.size : Int)) = true := decide_eq_true c3214
              have hc3214 := hid c3214
              clear c3214
              simp only [Option.some.injEq, Prod.mk.injEq] at H
              obtain ⟨rfl, rfl, rfl, rfl⟩ := H
              go_enter Try.func17, Try.ntmps17
              have k3216 := True.intro
              have k3217 := True.intro
              go_wp2_with (first
                | ((with_reducible refine gate_d (N := 5) rfl ?_); obtain ⟨gb3199, hgb3199⟩ : ∃ g_, w.heap.size = g_ := ⟨_, rfl⟩; refine ag_alloc aT26 gb3199 hgb3199 rfl rfl ?_; intro w3215 hb_ hB_ hs_; have GEb3199 : Hid (w.heap.size ≤ gb3199) := hid (by have := HL.out.size; omega); replace HL := hid (HL.out.trans (hb_.mono GEb3199.out)); have BKb3199 := hid hB_; clear hb_ hB_ hs_ hgb3199)
                | (go_at_call 27; clear k3216; refine (i_lex_there.calls a0 a1 true _ A3204.out).mono ?_; rintro e_ w' ⟨rfl, rfl⟩)
                | ((with_reducible refine gate_d (N := 14) rfl ?_); refine ag_fix (.string (a0.extract (a1 : Int).toNat a0.size)) (ex_cut_l 9 und_txt a0 a1  hc3206.out hc3207.out _ _ rfl rfl rfl) rfl ?_)
                | (go_at_call 33; clear k3217; refine (stByte (a0.extract (a1 : Int).toNat a0.size) 10 _).mono ?_; rintro e_ w' ⟨rfl, rfl⟩)
                | ((with_reducible refine gate_d (N := 29) rfl ?_); refine ag_fix (.string (a0.extract (a1 : Int).toNat ((wrap64 (a1 + (ixB (a0.extract (a1 : Int).toNat a0.size) 10))) : Int).toNat)) (ex_cut_lh 9 und_txt a0 a1 (wrap64 (a1 + (ixB (a0.extract (a1 : Int).toNat a0.size) 10))) hc3206.out hc3213.out hc3214.out _ _ _ rfl rfl rfl rfl) rfl ?_)
                | ((with_reducible refine gate_d (N := 34) rfl ?_); refine ag_build (.agg #[.int .i64 (wrap64 ((wrap64 (a1 + (ixB (a0.extract (a1 : Int).toNat a0.size) 10))) + 1)), .int .i64 0, .int .i64 0]) _ rfl rfl ?_ ?_; (intro ww_; simp only [List.map_toArray, List.map_cons, List.map_nil]; kernel_rfl))
                | ((with_reducible refine gate_s (t := 26) (p := 5) rfl ?_); refine ag_store aT26 gb3199 0 #[.int .i64 0, .int .i64 0, .int .i64 0] #[.int .i64 (wrap64 ((wrap64 (a1 + (ixB (a0.extract (a1 : Int).toNat a0.size) 10))) + 1)), .int .i64 0, .int .i64 0] #[.int .i64 (wrap64 ((wrap64 (a1 + (ixB (a0.extract (a1 : Int).toNat a0.size) 10))) + 1)), .int .i64 0, .int .i64 0] BKb3199.out rfl (by simp) (by intro v_ hv_; simp at hv_; rcases hv_ with rfl | rfl | rfl <;> first | rfl) rfl rfl _ _ rfl rfl rfl ?_; intro w3218 ho_ hB_; replace HL := hid (ho_.below HL.out GEb3199.out); replace BKb3199 := hid hB_; clear ho_ hB_))
              (try simp only [Act.put, List.setIfInBounds_toArray, List.set_cons_zero, List.set_cons_succ])
              refine bodyPost_ret (v := .tuple #[.string (a0.extract (a1 : Int).toNat ((wrap64 (a1 + (ixB (a0.extract (a1 : Int).toNat a0.size) 10))) : Int).toNat), .agg #[.int .i64 (wrap64 ((wrap64 (a1 + (ixB (a0.extract (a1 : Int).toNat a0.size) 10))) + 1)), .int .i64 0, .int .i64 0]]) (res_tc aT26 rfl _ gb3199 #[.int .i64 (wrap64 ((wrap64 (a1 + (ixB (a0.extract (a1 : Int).toNat a0.size) 10))) + 1)), .int .i64 0, .int .i64 0] (.string (a0.extract (a1 : Int).toNat ((wrap64 (a1 + (ixB (a0.extract (a1 : Int).toNat a0.size) 10))) : Int).toNat)) BKb3199.out rfl rfl rfl) rfl ?_
              exact ⟨by first | rfl | (simp; done) | (simp [*]; done), HL.out⟩
            · rw [if_neg c3214] at H
              exact absurd H (by simp)
          · rw [if_neg c3213] at H
            exact absurd H (by simp)
      · rw [if_neg c3207] at H
        exact absurd H (by simp)
    · rw [if_neg c3206] at H
      exact absurd H (by simp)
  | false =>
    rw [if_neg (show ¬ (false = true) by decide)] at H
    replace H := Option.bind_eq_some_iff.mp H
    obtain ⟨⟨t3201, t3202, t3203⟩, A3219_, H⟩ := H
    replace H : (some ((⟨#[]⟩ : ByteArray), t3201, t3202, t3203)) = some (r1, r2, r3, r4) := H
    have A3219 := hid A3219_
    clear A3219_
    simp only [Option.some.injEq, Prod.mk.injEq] at H
    obtain ⟨rfl, rfl, rfl, rfl⟩ := H
    go_enter Try.func17, Try.ntmps17
    have k3221 := True.intro
    have k3222 := True.intro
    go_wp2_with (first
      | ((with_reducible refine gate_d (N := 5) rfl ?_); obtain ⟨gb3199, hgb3199⟩ : ∃ g_, w.heap.size = g_ := ⟨_, rfl⟩; refine ag_alloc aT26 gb3199 hgb3199 rfl rfl ?_; intro w3220 hb_ hB_ hs_; have GEb3199 : Hid (w.heap.size ≤ gb3199) := hid (by have := HL.out.size; omega); replace HL := hid (HL.out.trans (hb_.mono GEb3199.out)); have BKb3199 := hid hB_; clear hb_ hB_ hs_ hgb3199)
      | (go_at_call 27; clear k3221; refine (i_lex_there.calls a0 a1 false _ A3204.out).mono ?_; rintro e_ w' ⟨rfl, rfl⟩)
      | (go_at_call 28; clear k3222; refine (i_lex_wrong.calls t3201 t3202 t3203 _ A3219.out).mono ?_; rintro e_ w3223 ⟨rfl, hb_⟩; replace BKb3199 := hid (BKb3199.out.below hb_ BKb3199.out.lt); replace HL := hid (HL.out.trans (hb_.mono HL.out.size)); clear hb_)
      | ((with_reducible refine gate_s (t := 26) (p := 5) rfl ?_); refine ag_store aT26 gb3199 0 #[.int .i64 0, .int .i64 0, .int .i64 0] #[.int .i64 t3201, .int .i64 t3202, .int .i64 t3203] #[.int .i64 t3201, .int .i64 t3202, .int .i64 t3203] BKb3199.out rfl (by simp) (by intro v_ hv_; simp at hv_; rcases hv_ with rfl | rfl | rfl <;> first | rfl) rfl rfl _ _ rfl rfl rfl ?_; intro w3224 ho_ hB_; replace HL := hid (ho_.below HL.out GEb3199.out); replace BKb3199 := hid hB_; clear ho_ hB_))
    (try simp only [Act.put, List.setIfInBounds_toArray, List.set_cons_zero, List.set_cons_succ])
    refine bodyPost_ret (v := .tuple #[.string (⟨#[]⟩ : ByteArray), .agg #[.int .i64 t3201, .int .i64 t3202, .int .i64 t3203]]) (res_tc aT26 rfl _ gb3199 #[.int .i64 t3201, .int .i64 t3202, .int .i64 t3203] (.string (⟨#[]⟩ : ByteArray)) BKb3199.out rfl rfl rfl) rfl ?_
    exact ⟨by first | rfl | (simp; done) | (simp [*]; done), HL.out⟩
/-! i_alfillaw14_LexSquares: function 6 -/
def i_alfillaw14_LexSquares.f (k : Nat) (a0 : ByteArray) (a1 : Int) : Option (Bool) := (i_alfillaw14_wakes.f k).bind fun t3225 => (if t3225 = true then (if (a0.size : Int) > 200 then (some true) else ((i_lex_Line.f a0 a1).bind fun bt3226 => ((i_alfilref14_Read.f k a0 a1).bind fun bt3231 => ((i_lex_Square.f k a0 a1).bind fun bt3236 => ((i_alfilref14_Square.f k a0 a1).bind fun bt3239 => (if ((bt3236.1 == bt3239.1) && ((bt3236.2.1 == bt3239.2.1) && ((bt3236.2.2 == bt3239.2.2)))) = true then (if bt3226.1.toList = bt3231.1.toList then (if ((bt3226.2.1 == bt3231.2.1) && ((bt3226.2.2.1 == bt3231.2.2.1) && ((bt3226.2.2.2 == bt3231.2.2.2)))) = true then (some true) else (some false)) else (some false)) else (some false))))))) else (some false))
set_option maxHeartbeats 40000000 in
set_option maxRecDepth 100000 in
theorem i_alfillaw14_LexSquares.calls (k : Nat) (a0 : ByteArray) (a1 : Int) (r1 : Bool) (w : World) (h : i_alfillaw14_LexSquares.f k a0 a1 = some r1) :
    Calls Try.prog 6 #[.string a0, .int .i64 a1] w fun e w' => e = .returned (.bool r1) ∧ Below w.heap.size w w' := by
  have HL := hid (Below.refl w.heap.size w)
  have H : ((i_alfillaw14_wakes.f k).bind fun t3225 => (if t3225 = true then (if (a0.size : Int) > 200 then (some true) else ((i_lex_Line.f a0 a1).bind fun bt3226 => ((i_alfilref14_Read.f k a0 a1).bind fun bt3231 => ((i_lex_Square.f k a0 a1).bind fun bt3236 => ((i_alfilref14_Square.f k a0 a1).bind fun bt3239 => (if ((bt3236.1 == bt3239.1) && ((bt3236.2.1 == bt3239.2.1) && ((bt3236.2.2 == bt3239.2.2)))) = true then (if bt3226.1.toList = bt3231.1.toList then (if ((bt3226.2.1 == bt3231.2.1) && ((bt3226.2.2.1 == bt3231.2.2.1) && ((bt3226.2.2.2 == bt3231.2.2.2)))) = true then (some true) else (some false)) else (some false)) else (some false))))))) else (some false))) = some r1 := h
  clear h
  replace H := Option.bind_eq_some_iff.mp H
  obtain ⟨t3225, A3242_, H⟩ := H
  replace H : (if t3225 = true then (if (a0.size : Int) > 200 then (some true) else ((i_lex_Line.f a0 a1).bind fun bt3226 => ((i_alfilref14_Read.f k a0 a1).bind fun bt3231 => ((i_lex_Square.f k a0 a1).bind fun bt3236 => ((i_alfilref14_Square.f k a0 a1).bind fun bt3239 => (if ((bt3236.1 == bt3239.1) && ((bt3236.2.1 == bt3239.2.1) && ((bt3236.2.2 == bt3239.2.2)))) = true then (if bt3226.1.toList = bt3231.1.toList then (if ((bt3226.2.1 == bt3231.2.1) && ((bt3226.2.2.1 == bt3231.2.2.1) && ((bt3226.2.2.2 == bt3231.2.2.2)))) = true then (some true) else (some false)) else (some false)) else (some false))))))) else (some false)) = some r1 := H
  have A3242 := hid A3242_
  clear A3242_
  cases t3225 with
  | true =>
    rw [if_pos rfl] at H
    by_cases c3244 : (a0.size : Int) > 200
    · rw [if_pos c3244] at H
      have c3244b0 : decide (200 < (a0.size : Int)) = true := decide_eq_true c3244
      have c3244b1 : decide (200 < a0.size) = true := decide_eq_true (by omega)
      have hc3244 := hid c3244
      clear c3244
      obtain rfl := Option.some.inj H
      clear H
      go_enter Try.func6, Try.ntmps6
      have k3245 := True.intro
      go_wp2_with (first
        | (go_at_call 9; clear k3245; refine (i_alfillaw14_wakes.calls k true _ A3242.out).mono ?_; rintro e_ w3246 ⟨rfl, hb_⟩; replace HL := hid (HL.out.trans (hb_.mono HL.out.size)); clear hb_))
      (try simp only [Act.put, List.setIfInBounds_toArray, List.set_cons_zero, List.set_cons_succ])
      go_ret
      exact ⟨by first | rfl | (simp; done) | (simp [*]; done), HL.out⟩
    · rw [if_neg c3244] at H
      have c3244b0 : decide (200 < (a0.size : Int)) = false := decide_eq_false c3244
      have c3244b1 : decide (200 < a0.size) = false := decide_eq_false (by omega)
      have hc3244 := hid c3244
      clear c3244
      replace H := Option.bind_eq_some_iff.mp H
      obtain ⟨⟨t3226, t3227, t3228, t3229⟩, A3247_, H⟩ := H
      replace H : ((i_alfilref14_Read.f k a0 a1).bind fun bt3231 => ((i_lex_Square.f k a0 a1).bind fun bt3236 => ((i_alfilref14_Square.f k a0 a1).bind fun bt3239 => (if ((bt3236.1 == bt3239.1) && ((bt3236.2.1 == bt3239.2.1) && ((bt3236.2.2 == bt3239.2.2)))) = true then (if t3226.toList = bt3231.1.toList then (if ((t3227 == bt3231.2.1) && ((t3228 == bt3231.2.2.1) && ((t3229 == bt3231.2.2.2)))) = true then (some true) else (some false)) else (some false)) else (some false))))) = some r1 := H
      have A3247 := hid A3247_
      clear A3247_
      replace H := Option.bind_eq_some_iff.mp H
      obtain ⟨⟨t3231, t3232, t3233, t3234⟩, A3248_, H⟩ := H
      replace H : ((i_lex_Square.f k a0 a1).bind fun bt3236 => ((i_alfilref14_Square.f k a0 a1).bind fun bt3239 => (if ((bt3236.1 == bt3239.1) && ((bt3236.2.1 == bt3239.2.1) && ((bt3236.2.2 == bt3239.2.2)))) = true then (if t3226.toList = t3231.toList then (if ((t3227 == t3232) && ((t3228 == t3233) && ((t3229 == t3234)))) = true then (some true) else (some false)) else (some false)) else (some false)))) = some r1 := H
      have A3248 := hid A3248_
      clear A3248_
      replace H := Option.bind_eq_some_iff.mp H
      obtain ⟨⟨t3236, t3237, t3238⟩, A3249_, H⟩ := H
      replace H : ((i_alfilref14_Square.f k a0 a1).bind fun bt3239 => (if ((t3236 == bt3239.1) && ((t3237 == bt3239.2.1) && ((t3238 == bt3239.2.2)))) = true then (if t3226.toList = t3231.toList then (if ((t3227 == t3232) && ((t3228 == t3233) && ((t3229 == t3234)))) = true then (some true) else (some false)) else (some false)) else (some false))) = some r1 := H
      have A3249 := hid A3249_
      clear A3249_
      replace H := Option.bind_eq_some_iff.mp H
      obtain ⟨⟨t3239, t3240, t3241⟩, A3250_, H⟩ := H
      replace H : (if ((t3236 == t3239) && ((t3237 == t3240) && ((t3238 == t3241)))) = true then (if t3226.toList = t3231.toList then (if ((t3227 == t3232) && ((t3228 == t3233) && ((t3229 == t3234)))) = true then (some true) else (some false)) else (some false)) else (some false)) = some r1 := H
      have A3250 := hid A3250_
      clear A3250_
      by_cases c3251 : ((t3236 == t3239) && ((t3237 == t3240) && ((t3238 == t3241)))) = true
      · rw [if_pos c3251] at H
        have c3251b0 : ((t3236 == t3239) && ((t3237 == t3240) && ((t3238 == t3241)))) = true := c3251
        have hc3251 := hid c3251
        clear c3251
        by_cases c3252 : t3226.toList = t3231.toList
        · rw [if_pos c3252] at H
          have c3252b0 : (t3226.toList == t3231.toList) = true := beq_iff_eq.mpr c3252
          have c3252b1 : (t3226.toList != t3231.toList) = false := bne_eq_false_iff_eq.mpr c3252
          have hc3252 := hid c3252
          clear c3252
          by_cases c3253 : ((t3227 == t3232) && ((t3228 == t3233) && ((t3229 == t3234)))) = true
          · rw [if_pos c3253] at H
            have c3253b0 : ((t3227 == t3232) && ((t3228 == t3233) && ((t3229 == t3234)))) = true := c3253
            have hc3253 := hid c3253
            clear c3253
            obtain rfl := Option.some.inj H
            clear H
            go_enter Try.func6, Try.ntmps6
            have k3254 := True.intro
            have k3256 := True.intro
            have k3260 := True.intro
            have k3264 := True.intro
            have k3266 := True.intro
            go_wp2_with (first
              | (go_at_call 9; clear k3254; refine (i_alfillaw14_wakes.calls k true _ A3242.out).mono ?_; rintro e_ w3255 ⟨rfl, hb_⟩; replace HL := hid (HL.out.trans (hb_.mono HL.out.size)); clear hb_)
              | (go_at_call 17; clear k3256; refine (i_lex_Line.calls a0 a1 t3226 t3227 t3228 t3229 _ A3247.out).mono ?_; rintro e_ w3257 ⟨rfl, hb_⟩; replace HL := hid (HL.out.trans (hb_.mono HL.out.size)); clear hb_)
              | ((with_reducible refine gate_d (N := 6) rfl ?_); obtain ⟨gb3230, hgb3230⟩ : ∃ g_, w3257.heap.size = g_ := ⟨_, rfl⟩; refine ag_alloc aT26 gb3230 hgb3230 rfl rfl ?_; intro w3258 hb_ hB_ hs_; have GEb3230 : Hid (w.heap.size ≤ gb3230) := hid (by have := HL.out.size; omega); replace HL := hid (HL.out.trans (hb_.mono GEb3230.out)); have BKb3230 := hid hB_; clear hb_ hB_ hs_ hgb3230)
              | ((with_reducible refine gate_s (t := 26) (p := 6) rfl ?_); refine ag_store aT26 gb3230 0 #[.int .i64 0, .int .i64 0, .int .i64 0] #[.int .i64 t3227, .int .i64 t3228, .int .i64 t3229] #[.int .i64 t3227, .int .i64 t3228, .int .i64 t3229] BKb3230.out rfl (by simp) (by intro v_ hv_; simp at hv_; rcases hv_ with rfl | rfl | rfl <;> first | rfl) rfl rfl _ _ rfl rfl rfl ?_; intro w3259 ho_ hB_; replace HL := hid (ho_.below HL.out GEb3230.out); replace BKb3230 := hid hB_; clear ho_ hB_)
              | (go_at_call 18; clear k3260; refine (i_alfilref14_Read.calls k a0 a1 t3231 t3232 t3233 t3234 _ A3248.out).mono ?_; rintro e_ w3261 ⟨rfl, hb_⟩; replace BKb3230 := hid (BKb3230.out.below hb_ BKb3230.out.lt); replace HL := hid (HL.out.trans (hb_.mono HL.out.size)); clear hb_)
              | ((with_reducible refine gate_d (N := 7) rfl ?_); obtain ⟨gb3235, hgb3235⟩ : ∃ g_, w3261.heap.size = g_ := ⟨_, rfl⟩; refine ag_alloc aT38 gb3235 hgb3235 rfl rfl ?_; intro w3262 hb_ hB_ hs_; have GEb3235 : Hid (w.heap.size ≤ gb3235) := hid (by have := HL.out.size; omega); have NBb3230_b3235 : Hid (gb3230 ≠ gb3235) := hid (by have := BKb3230.out.lt; omega); have NBb3235_b3230 : Hid (gb3235 ≠ gb3230) := hid (by have := NBb3230_b3235.out; omega); replace BKb3230 := hid (BKb3230.out.below hb_ (by rw [← hgb3235]; exact BKb3230.out.lt)); replace HL := hid (HL.out.trans (hb_.mono GEb3235.out)); have BKb3235 := hid hB_; clear hb_ hB_ hs_ hgb3235)
              | ((with_reducible refine gate_s (t := 38) (p := 7) rfl ?_); refine ag_store aT38 gb3235 0 #[.string (⟨#[]⟩ : ByteArray), .int .i64 0, .int .i64 0, .int .i64 0] #[.string t3231, .int .i64 t3232, .int .i64 t3233, .int .i64 t3234] #[.string t3231, .int .i64 t3232, .int .i64 t3233, .int .i64 t3234] BKb3235.out rfl (by simp) (by intro v_ hv_; simp at hv_; rcases hv_ with rfl | rfl | rfl | rfl <;> first | rfl) rfl rfl _ _ rfl rfl rfl ?_; intro w3263 ho_ hB_; replace BKb3230 := hid (BKb3230.out.off ho_ NBb3230_b3235.out); replace HL := hid (ho_.below HL.out GEb3235.out); replace BKb3235 := hid hB_; clear ho_ hB_)
              | (go_at_call 19; clear k3264; refine (i_lex_Square.calls k a0 a1 t3236 t3237 t3238 _ A3249.out).mono ?_; rintro e_ w3265 ⟨rfl, hb_⟩; replace BKb3230 := hid (BKb3230.out.below hb_ BKb3230.out.lt); replace BKb3235 := hid (BKb3235.out.below hb_ BKb3235.out.lt); replace HL := hid (HL.out.trans (hb_.mono HL.out.size)); clear hb_)
              | (go_at_call 20; clear k3266; refine (i_alfilref14_Square.calls k a0 a1 t3239 t3240 t3241 _ A3250.out).mono ?_; rintro e_ w3267 ⟨rfl, hb_⟩; replace BKb3230 := hid (BKb3230.out.below hb_ BKb3230.out.lt); replace BKb3235 := hid (BKb3235.out.below hb_ BKb3235.out.lt); replace HL := hid (HL.out.trans (hb_.mono HL.out.size)); clear hb_)
              | ((with_reducible refine gate_d (N := 28) rfl ?_); refine ag_fix (.bool true) (ex_eq .eql 26 (.agg #[.int .i64 t3236, .int .i64 t3237, .int .i64 t3238]) (.agg #[.int .i64 t3239, .int .i64 t3240, .int .i64 t3241]) (.bool true) (fun x_ y_ w_ => guard_any (by kernel_rfl) _ x_ y_ w_) (fun w_ => (eq_bin (fun d_ w2_ => eqS26 d_ w2_ t3236 t3239 t3237 t3240 t3238 t3241 ) (by decide) w_).trans (by rw [show ((t3236 == t3239) && ((t3237 == t3240) && ((t3238 == t3241)))) = true from hc3251.out])) _ _ _ rfl rfl rfl) rfl ?_)
              | ((with_reducible refine gate_d (N := 31) rfl ?_); refine ag_fix (.pointer (some ⟨gb3235, 0, none⟩)) (ex_field 38 0 (.pointer (some ⟨gb3235, 0, none⟩)) (.pointer (some ⟨gb3235, 0, none⟩)) (fa38_0_0 gb3235) _ rfl rfl) rfl ?_)
              | ((with_reducible refine gate_d (N := 32) rfl ?_); refine ag_fix (.string t3231) (ex_get sT9 gb3235 (0) (.string t3231) (#[.string t3231, .int .i64 t3232, .int .i64 t3233, .int .i64 t3234]) BKb3235.out rfl _ rfl rfl) rfl ?_)
              | ((with_reducible refine gate_d (N := 36) rfl ?_); refine ag_fix (.agg #[.int .i64 t3227, .int .i64 t3228, .int .i64 t3229]) (ex_load aT26 gb3230 0 #[.int .i64 t3227, .int .i64 t3228, .int .i64 t3229] #[.int .i64 t3227, .int .i64 t3228, .int .i64 t3229] BKb3230.out (by simp) rfl _ rfl rfl) rfl ?_)
              | ((with_reducible refine gate_d (N := 37) rfl ?_); refine ag_fix (.pointer (some ⟨gb3235, 1, none⟩)) (ex_field 38 1 (.pointer (some ⟨gb3235, 0, none⟩)) (.pointer (some ⟨gb3235, 1, none⟩)) (fa38_1_0 gb3235) _ rfl rfl) rfl ?_)
              | ((with_reducible refine gate_d (N := 38) rfl ?_); refine ag_fix (.agg #[.int .i64 t3232, .int .i64 t3233, .int .i64 t3234]) (ex_load aT26 gb3235 1 #[.string t3231, .int .i64 t3232, .int .i64 t3233, .int .i64 t3234] #[.int .i64 t3232, .int .i64 t3233, .int .i64 t3234] BKb3235.out (by simp) rfl _ rfl rfl) rfl ?_)
              | ((with_reducible refine gate_d (N := 39) rfl ?_); refine ag_fix (.bool true) (ex_eq .eql 26 (.agg #[.int .i64 t3227, .int .i64 t3228, .int .i64 t3229]) (.agg #[.int .i64 t3232, .int .i64 t3233, .int .i64 t3234]) (.bool true) (fun x_ y_ w_ => guard_any (by kernel_rfl) _ x_ y_ w_) (fun w_ => (eq_bin (fun d_ w2_ => eqS26 d_ w2_ t3227 t3232 t3228 t3233 t3229 t3234 ) (by decide) w_).trans (by rw [show ((t3227 == t3232) && ((t3228 == t3233) && ((t3229 == t3234)))) = true from hc3253.out])) _ _ _ rfl rfl rfl) rfl ?_))
            (try simp only [Act.put, List.setIfInBounds_toArray, List.set_cons_zero, List.set_cons_succ])
            go_ret
            exact ⟨by first | rfl | (simp; done) | (simp [*]; done), HL.out⟩
          · rw [if_neg c3253] at H
            have c3253b0 : ((t3227 == t3232) && ((t3228 == t3233) && ((t3229 == t3234)))) = false := by simpa using c3253
            have hc3253 := hid c3253
            clear c3253
            obtain rfl := Option.some.inj H
            clear H
            go_enter Try.func6, Try.ntmps6
            have k3268 := True.intro
            have k3270 := True.intro
            have k3274 := True.intro
            have k3278 := True.intro
            have k3280 := True.intro
            go_wp2_with (first
              | (go_at_call 9; clear k3268; refine (i_alfillaw14_wakes.calls k true _ A3242.out).mono ?_; rintro e_ w3269 ⟨rfl, hb_⟩; replace HL := hid (HL.out.trans (hb_.mono HL.out.size)); clear hb_)
              | (go_at_call 17; clear k3270; refine (i_lex_Line.calls a0 a1 t3226 t3227 t3228 t3229 _ A3247.out).mono ?_; rintro e_ w3271 ⟨rfl, hb_⟩; replace HL := hid (HL.out.trans (hb_.mono HL.out.size)); clear hb_)
              | ((with_reducible refine gate_d (N := 6) rfl ?_); obtain ⟨gb3230, hgb3230⟩ : ∃ g_, w3271.heap.size = g_ := ⟨_, rfl⟩; refine ag_alloc aT26 gb3230 hgb3230 rfl rfl ?_; intro w3272 hb_ hB_ hs_; have GEb3230 : Hid (w.heap.size ≤ gb3230) := hid (by have := HL.out.size; omega); replace HL := hid (HL.out.trans (hb_.mono GEb3230.out)); have BKb3230 := hid hB_; clear hb_ hB_ hs_ hgb3230)
              | ((with_reducible refine gate_s (t := 26) (p := 6) rfl ?_); refine ag_store aT26 gb3230 0 #[.int .i64 0, .int .i64 0, .int .i64 0] #[.int .i64 t3227, .int .i64 t3228, .int .i64 t3229] #[.int .i64 t3227, .int .i64 t3228, .int .i64 t3229] BKb3230.out rfl (by simp) (by intro v_ hv_; simp at hv_; rcases hv_ with rfl | rfl | rfl <;> first | rfl) rfl rfl _ _ rfl rfl rfl ?_; intro w3273 ho_ hB_; replace HL := hid (ho_.below HL.out GEb3230.out); replace BKb3230 := hid hB_; clear ho_ hB_)
              | (go_at_call 18; clear k3274; refine (i_alfilref14_Read.calls k a0 a1 t3231 t3232 t3233 t3234 _ A3248.out).mono ?_; rintro e_ w3275 ⟨rfl, hb_⟩; replace BKb3230 := hid (BKb3230.out.below hb_ BKb3230.out.lt); replace HL := hid (HL.out.trans (hb_.mono HL.out.size)); clear hb_)
              | ((with_reducible refine gate_d (N := 7) rfl ?_); obtain ⟨gb3235, hgb3235⟩ : ∃ g_, w3275.heap.size = g_ := ⟨_, rfl⟩; refine ag_alloc aT38 gb3235 hgb3235 rfl rfl ?_; intro w3276 hb_ hB_ hs_; have GEb3235 : Hid (w.heap.size ≤ gb3235) := hid (by have := HL.out.size; omega); have NBb3230_b3235 : Hid (gb3230 ≠ gb3235) := hid (by have := BKb3230.out.lt; omega); have NBb3235_b3230 : Hid (gb3235 ≠ gb3230) := hid (by have := NBb3230_b3235.out; omega); replace BKb3230 := hid (BKb3230.out.below hb_ (by rw [← hgb3235]; exact BKb3230.out.lt)); replace HL := hid (HL.out.trans (hb_.mono GEb3235.out)); have BKb3235 := hid hB_; clear hb_ hB_ hs_ hgb3235)
              | ((with_reducible refine gate_s (t := 38) (p := 7) rfl ?_); refine ag_store aT38 gb3235 0 #[.string (⟨#[]⟩ : ByteArray), .int .i64 0, .int .i64 0, .int .i64 0] #[.string t3231, .int .i64 t3232, .int .i64 t3233, .int .i64 t3234] #[.string t3231, .int .i64 t3232, .int .i64 t3233, .int .i64 t3234] BKb3235.out rfl (by simp) (by intro v_ hv_; simp at hv_; rcases hv_ with rfl | rfl | rfl | rfl <;> first | rfl) rfl rfl _ _ rfl rfl rfl ?_; intro w3277 ho_ hB_; replace BKb3230 := hid (BKb3230.out.off ho_ NBb3230_b3235.out); replace HL := hid (ho_.below HL.out GEb3235.out); replace BKb3235 := hid hB_; clear ho_ hB_)
              | (go_at_call 19; clear k3278; refine (i_lex_Square.calls k a0 a1 t3236 t3237 t3238 _ A3249.out).mono ?_; rintro e_ w3279 ⟨rfl, hb_⟩; replace BKb3230 := hid (BKb3230.out.below hb_ BKb3230.out.lt); replace BKb3235 := hid (BKb3235.out.below hb_ BKb3235.out.lt); replace HL := hid (HL.out.trans (hb_.mono HL.out.size)); clear hb_)
              | (go_at_call 20; clear k3280; refine (i_alfilref14_Square.calls k a0 a1 t3239 t3240 t3241 _ A3250.out).mono ?_; rintro e_ w3281 ⟨rfl, hb_⟩; replace BKb3230 := hid (BKb3230.out.below hb_ BKb3230.out.lt); replace BKb3235 := hid (BKb3235.out.below hb_ BKb3235.out.lt); replace HL := hid (HL.out.trans (hb_.mono HL.out.size)); clear hb_)
              | ((with_reducible refine gate_d (N := 28) rfl ?_); refine ag_fix (.bool true) (ex_eq .eql 26 (.agg #[.int .i64 t3236, .int .i64 t3237, .int .i64 t3238]) (.agg #[.int .i64 t3239, .int .i64 t3240, .int .i64 t3241]) (.bool true) (fun x_ y_ w_ => guard_any (by kernel_rfl) _ x_ y_ w_) (fun w_ => (eq_bin (fun d_ w2_ => eqS26 d_ w2_ t3236 t3239 t3237 t3240 t3238 t3241 ) (by decide) w_).trans (by rw [show ((t3236 == t3239) && ((t3237 == t3240) && ((t3238 == t3241)))) = true from hc3251.out])) _ _ _ rfl rfl rfl) rfl ?_)
              | ((with_reducible refine gate_d (N := 31) rfl ?_); refine ag_fix (.pointer (some ⟨gb3235, 0, none⟩)) (ex_field 38 0 (.pointer (some ⟨gb3235, 0, none⟩)) (.pointer (some ⟨gb3235, 0, none⟩)) (fa38_0_0 gb3235) _ rfl rfl) rfl ?_)
              | ((with_reducible refine gate_d (N := 32) rfl ?_); refine ag_fix (.string t3231) (ex_get sT9 gb3235 (0) (.string t3231) (#[.string t3231, .int .i64 t3232, .int .i64 t3233, .int .i64 t3234]) BKb3235.out rfl _ rfl rfl) rfl ?_)
              | ((with_reducible refine gate_d (N := 36) rfl ?_); refine ag_fix (.agg #[.int .i64 t3227, .int .i64 t3228, .int .i64 t3229]) (ex_load aT26 gb3230 0 #[.int .i64 t3227, .int .i64 t3228, .int .i64 t3229] #[.int .i64 t3227, .int .i64 t3228, .int .i64 t3229] BKb3230.out (by simp) rfl _ rfl rfl) rfl ?_)
              | ((with_reducible refine gate_d (N := 37) rfl ?_); refine ag_fix (.pointer (some ⟨gb3235, 1, none⟩)) (ex_field 38 1 (.pointer (some ⟨gb3235, 0, none⟩)) (.pointer (some ⟨gb3235, 1, none⟩)) (fa38_1_0 gb3235) _ rfl rfl) rfl ?_)
              | ((with_reducible refine gate_d (N := 38) rfl ?_); refine ag_fix (.agg #[.int .i64 t3232, .int .i64 t3233, .int .i64 t3234]) (ex_load aT26 gb3235 1 #[.string t3231, .int .i64 t3232, .int .i64 t3233, .int .i64 t3234] #[.int .i64 t3232, .int .i64 t3233, .int .i64 t3234] BKb3235.out (by simp) rfl _ rfl rfl) rfl ?_)
              | ((with_reducible refine gate_d (N := 39) rfl ?_); refine ag_fix (.bool false) (ex_eq .eql 26 (.agg #[.int .i64 t3227, .int .i64 t3228, .int .i64 t3229]) (.agg #[.int .i64 t3232, .int .i64 t3233, .int .i64 t3234]) (.bool false) (fun x_ y_ w_ => guard_any (by kernel_rfl) _ x_ y_ w_) (fun w_ => (eq_bin (fun d_ w2_ => eqS26 d_ w2_ t3227 t3232 t3228 t3233 t3229 t3234 ) (by decide) w_).trans (by rw [show ((t3227 == t3232) && ((t3228 == t3233) && ((t3229 == t3234)))) = false from Bool.eq_false_iff.mpr hc3253.out])) _ _ _ rfl rfl rfl) rfl ?_))
            (try simp only [Act.put, List.setIfInBounds_toArray, List.set_cons_zero, List.set_cons_succ])
            go_ret
            exact ⟨by first | rfl | (simp; done) | (simp [*]; done), HL.out⟩
        · rw [if_neg c3252] at H
          have c3252b0 : (t3226.toList == t3231.toList) = false := beq_eq_false_iff_ne.mpr c3252
          have c3252b1 : (t3226.toList != t3231.toList) = true := bne_iff_ne.mpr c3252
          have hc3252 := hid c3252
          clear c3252
          obtain rfl := Option.some.inj H
          clear H
          go_enter Try.func6, Try.ntmps6
          have k3282 := True.intro
          have k3284 := True.intro
          have k3288 := True.intro
          have k3292 := True.intro
          have k3294 := True.intro
          go_wp2_with (first
            | (go_at_call 9; clear k3282; refine (i_alfillaw14_wakes.calls k true _ A3242.out).mono ?_; rintro e_ w3283 ⟨rfl, hb_⟩; replace HL := hid (HL.out.trans (hb_.mono HL.out.size)); clear hb_)
            | (go_at_call 17; clear k3284; refine (i_lex_Line.calls a0 a1 t3226 t3227 t3228 t3229 _ A3247.out).mono ?_; rintro e_ w3285 ⟨rfl, hb_⟩; replace HL := hid (HL.out.trans (hb_.mono HL.out.size)); clear hb_)
            | ((with_reducible refine gate_d (N := 6) rfl ?_); obtain ⟨gb3230, hgb3230⟩ : ∃ g_, w3285.heap.size = g_ := ⟨_, rfl⟩; refine ag_alloc aT26 gb3230 hgb3230 rfl rfl ?_; intro w3286 hb_ hB_ hs_; have GEb3230 : Hid (w.heap.size ≤ gb3230) := hid (by have := HL.out.size; omega); replace HL := hid (HL.out.trans (hb_.mono GEb3230.out)); have BKb3230 := hid hB_; clear hb_ hB_ hs_ hgb3230)
            | ((with_reducible refine gate_s (t := 26) (p := 6) rfl ?_); refine ag_store aT26 gb3230 0 #[.int .i64 0, .int .i64 0, .int .i64 0] #[.int .i64 t3227, .int .i64 t3228, .int .i64 t3229] #[.int .i64 t3227, .int .i64 t3228, .int .i64 t3229] BKb3230.out rfl (by simp) (by intro v_ hv_; simp at hv_; rcases hv_ with rfl | rfl | rfl <;> first | rfl) rfl rfl _ _ rfl rfl rfl ?_; intro w3287 ho_ hB_; replace HL := hid (ho_.below HL.out GEb3230.out); replace BKb3230 := hid hB_; clear ho_ hB_)
            | (go_at_call 18; clear k3288; refine (i_alfilref14_Read.calls k a0 a1 t3231 t3232 t3233 t3234 _ A3248.out).mono ?_; rintro e_ w3289 ⟨rfl, hb_⟩; replace BKb3230 := hid (BKb3230.out.below hb_ BKb3230.out.lt); replace HL := hid (HL.out.trans (hb_.mono HL.out.size)); clear hb_)
            | ((with_reducible refine gate_d (N := 7) rfl ?_); obtain ⟨gb3235, hgb3235⟩ : ∃ g_, w3289.heap.size = g_ := ⟨_, rfl⟩; refine ag_alloc aT38 gb3235 hgb3235 rfl rfl ?_; intro w3290 hb_ hB_ hs_; have GEb3235 : Hid (w.heap.size ≤ gb3235) := hid (by have := HL.out.size; omega); have NBb3230_b3235 : Hid (gb3230 ≠ gb3235) := hid (by have := BKb3230.out.lt; omega); have NBb3235_b3230 : Hid (gb3235 ≠ gb3230) := hid (by have := NBb3230_b3235.out; omega); replace BKb3230 := hid (BKb3230.out.below hb_ (by rw [← hgb3235]; exact BKb3230.out.lt)); replace HL := hid (HL.out.trans (hb_.mono GEb3235.out)); have BKb3235 := hid hB_; clear hb_ hB_ hs_ hgb3235)
            | ((with_reducible refine gate_s (t := 38) (p := 7) rfl ?_); refine ag_store aT38 gb3235 0 #[.string (⟨#[]⟩ : ByteArray), .int .i64 0, .int .i64 0, .int .i64 0] #[.string t3231, .int .i64 t3232, .int .i64 t3233, .int .i64 t3234] #[.string t3231, .int .i64 t3232, .int .i64 t3233, .int .i64 t3234] BKb3235.out rfl (by simp) (by intro v_ hv_; simp at hv_; rcases hv_ with rfl | rfl | rfl | rfl <;> first | rfl) rfl rfl _ _ rfl rfl rfl ?_; intro w3291 ho_ hB_; replace BKb3230 := hid (BKb3230.out.off ho_ NBb3230_b3235.out); replace HL := hid (ho_.below HL.out GEb3235.out); replace BKb3235 := hid hB_; clear ho_ hB_)
            | (go_at_call 19; clear k3292; refine (i_lex_Square.calls k a0 a1 t3236 t3237 t3238 _ A3249.out).mono ?_; rintro e_ w3293 ⟨rfl, hb_⟩; replace BKb3230 := hid (BKb3230.out.below hb_ BKb3230.out.lt); replace BKb3235 := hid (BKb3235.out.below hb_ BKb3235.out.lt); replace HL := hid (HL.out.trans (hb_.mono HL.out.size)); clear hb_)
            | (go_at_call 20; clear k3294; refine (i_alfilref14_Square.calls k a0 a1 t3239 t3240 t3241 _ A3250.out).mono ?_; rintro e_ w3295 ⟨rfl, hb_⟩; replace BKb3230 := hid (BKb3230.out.below hb_ BKb3230.out.lt); replace BKb3235 := hid (BKb3235.out.below hb_ BKb3235.out.lt); replace HL := hid (HL.out.trans (hb_.mono HL.out.size)); clear hb_)
            | ((with_reducible refine gate_d (N := 28) rfl ?_); refine ag_fix (.bool true) (ex_eq .eql 26 (.agg #[.int .i64 t3236, .int .i64 t3237, .int .i64 t3238]) (.agg #[.int .i64 t3239, .int .i64 t3240, .int .i64 t3241]) (.bool true) (fun x_ y_ w_ => guard_any (by kernel_rfl) _ x_ y_ w_) (fun w_ => (eq_bin (fun d_ w2_ => eqS26 d_ w2_ t3236 t3239 t3237 t3240 t3238 t3241 ) (by decide) w_).trans (by rw [show ((t3236 == t3239) && ((t3237 == t3240) && ((t3238 == t3241)))) = true from hc3251.out])) _ _ _ rfl rfl rfl) rfl ?_)
            | ((with_reducible refine gate_d (N := 31) rfl ?_); refine ag_fix (.pointer (some ⟨gb3235, 0, none⟩)) (ex_field 38 0 (.pointer (some ⟨gb3235, 0, none⟩)) (.pointer (some ⟨gb3235, 0, none⟩)) (fa38_0_0 gb3235) _ rfl rfl) rfl ?_)
            | ((with_reducible refine gate_d (N := 32) rfl ?_); refine ag_fix (.string t3231) (ex_get sT9 gb3235 (0) (.string t3231) (#[.string t3231, .int .i64 t3232, .int .i64 t3233, .int .i64 t3234]) BKb3235.out rfl _ rfl rfl) rfl ?_))
          (try simp only [Act.put, List.setIfInBounds_toArray, List.set_cons_zero, List.set_cons_succ])
          go_ret
          exact ⟨by first | rfl | (simp; done) | (simp [*]; done), HL.out⟩
      · rw [if_neg c3251] at H
        have c3251b0 : ((t3236 == t3239) && ((t3237 == t3240) && ((t3238 == t3241)))) = false := by simpa using c3251
        have hc3251 := hid c3251
        clear c3251
        obtain rfl := Option.some.inj H
        clear H
        go_enter Try.func6, Try.ntmps6
        have k3296 := True.intro
        have k3298 := True.intro
        have k3302 := True.intro
        have k3306 := True.intro
        have k3308 := True.intro
        go_wp2_with (first
          | (go_at_call 9; clear k3296; refine (i_alfillaw14_wakes.calls k true _ A3242.out).mono ?_; rintro e_ w3297 ⟨rfl, hb_⟩; replace HL := hid (HL.out.trans (hb_.mono HL.out.size)); clear hb_)
          | (go_at_call 17; clear k3298; refine (i_lex_Line.calls a0 a1 t3226 t3227 t3228 t3229 _ A3247.out).mono ?_; rintro e_ w3299 ⟨rfl, hb_⟩; replace HL := hid (HL.out.trans (hb_.mono HL.out.size)); clear hb_)
          | ((with_reducible refine gate_d (N := 6) rfl ?_); obtain ⟨gb3230, hgb3230⟩ : ∃ g_, w3299.heap.size = g_ := ⟨_, rfl⟩; refine ag_alloc aT26 gb3230 hgb3230 rfl rfl ?_; intro w3300 hb_ hB_ hs_; have GEb3230 : Hid (w.heap.size ≤ gb3230) := hid (by have := HL.out.size; omega); replace HL := hid (HL.out.trans (hb_.mono GEb3230.out)); have BKb3230 := hid hB_; clear hb_ hB_ hs_ hgb3230)
          | ((with_reducible refine gate_s (t := 26) (p := 6) rfl ?_); refine ag_store aT26 gb3230 0 #[.int .i64 0, .int .i64 0, .int .i64 0] #[.int .i64 t3227, .int .i64 t3228, .int .i64 t3229] #[.int .i64 t3227, .int .i64 t3228, .int .i64 t3229] BKb3230.out rfl (by simp) (by intro v_ hv_; simp at hv_; rcases hv_ with rfl | rfl | rfl <;> first | rfl) rfl rfl _ _ rfl rfl rfl ?_; intro w3301 ho_ hB_; replace HL := hid (ho_.below HL.out GEb3230.out); replace BKb3230 := hid hB_; clear ho_ hB_)
          | (go_at_call 18; clear k3302; refine (i_alfilref14_Read.calls k a0 a1 t3231 t3232 t3233 t3234 _ A3248.out).mono ?_; rintro e_ w3303 ⟨rfl, hb_⟩; replace BKb3230 := hid (BKb3230.out.below hb_ BKb3230.out.lt); replace HL := hid (HL.out.trans (hb_.mono HL.out.size)); clear hb_)
          | ((with_reducible refine gate_d (N := 7) rfl ?_); obtain ⟨gb3235, hgb3235⟩ : ∃ g_, w3303.heap.size = g_ := ⟨_, rfl⟩; refine ag_alloc aT38 gb3235 hgb3235 rfl rfl ?_; intro w3304 hb_ hB_ hs_; have GEb3235 : Hid (w.heap.size ≤ gb3235) := hid (by have := HL.out.size; omega); have NBb3230_b3235 : Hid (gb3230 ≠ gb3235) := hid (by have := BKb3230.out.lt; omega); have NBb3235_b3230 : Hid (gb3235 ≠ gb3230) := hid (by have := NBb3230_b3235.out; omega); replace BKb3230 := hid (BKb3230.out.below hb_ (by rw [← hgb3235]; exact BKb3230.out.lt)); replace HL := hid (HL.out.trans (hb_.mono GEb3235.out)); have BKb3235 := hid hB_; clear hb_ hB_ hs_ hgb3235)
          | ((with_reducible refine gate_s (t := 38) (p := 7) rfl ?_); refine ag_store aT38 gb3235 0 #[.string (⟨#[]⟩ : ByteArray), .int .i64 0, .int .i64 0, .int .i64 0] #[.string t3231, .int .i64 t3232, .int .i64 t3233, .int .i64 t3234] #[.string t3231, .int .i64 t3232, .int .i64 t3233, .int .i64 t3234] BKb3235.out rfl (by simp) (by intro v_ hv_; simp at hv_; rcases hv_ with rfl | rfl | rfl | rfl <;> first | rfl) rfl rfl _ _ rfl rfl rfl ?_; intro w3305 ho_ hB_; replace BKb3230 := hid (BKb3230.out.off ho_ NBb3230_b3235.out); replace HL := hid (ho_.below HL.out GEb3235.out); replace BKb3235 := hid hB_; clear ho_ hB_)
          | (go_at_call 19; clear k3306; refine (i_lex_Square.calls k a0 a1 t3236 t3237 t3238 _ A3249.out).mono ?_; rintro e_ w3307 ⟨rfl, hb_⟩; replace BKb3230 := hid (BKb3230.out.below hb_ BKb3230.out.lt); replace BKb3235 := hid (BKb3235.out.below hb_ BKb3235.out.lt); replace HL := hid (HL.out.trans (hb_.mono HL.out.size)); clear hb_)
          | (go_at_call 20; clear k3308; refine (i_alfilref14_Square.calls k a0 a1 t3239 t3240 t3241 _ A3250.out).mono ?_; rintro e_ w3309 ⟨rfl, hb_⟩; replace BKb3230 := hid (BKb3230.out.below hb_ BKb3230.out.lt); replace BKb3235 := hid (BKb3235.out.below hb_ BKb3235.out.lt); replace HL := hid (HL.out.trans (hb_.mono HL.out.size)); clear hb_)
          | ((with_reducible refine gate_d (N := 28) rfl ?_); refine ag_fix (.bool false) (ex_eq .eql 26 (.agg #[.int .i64 t3236, .int .i64 t3237, .int .i64 t3238]) (.agg #[.int .i64 t3239, .int .i64 t3240, .int .i64 t3241]) (.bool false) (fun x_ y_ w_ => guard_any (by kernel_rfl) _ x_ y_ w_) (fun w_ => (eq_bin (fun d_ w2_ => eqS26 d_ w2_ t3236 t3239 t3237 t3240 t3238 t3241 ) (by decide) w_).trans (by rw [show ((t3236 == t3239) && ((t3237 == t3240) && ((t3238 == t3241)))) = false from Bool.eq_false_iff.mpr hc3251.out])) _ _ _ rfl rfl rfl) rfl ?_))
        (try simp only [Act.put, List.setIfInBounds_toArray, List.set_cons_zero, List.set_cons_succ])
        go_ret
        exact ⟨by first | rfl | (simp; done) | (simp [*]; done), HL.out⟩
  | false =>
    rw [if_neg (show ¬ (false = true) by decide)] at H
    obtain rfl := Option.some.inj H
    clear H
    go_enter Try.func6, Try.ntmps6
    have k3310 := True.intro
    go_wp2_with (first
      | (go_at_call 9; clear k3310; refine (i_alfillaw14_wakes.calls k false _ A3242.out).mono ?_; rintro e_ w3311 ⟨rfl, hb_⟩; replace HL := hid (HL.out.trans (hb_.mono HL.out.size)); clear hb_))
    (try simp only [Act.put, List.setIfInBounds_toArray, List.set_cons_zero, List.set_cons_succ])
    go_ret
    exact ⟨by first | rfl | (simp; done) | (simp [*]; done), HL.out⟩
end Go.Proofs.Ytabbkeliknidgaa
