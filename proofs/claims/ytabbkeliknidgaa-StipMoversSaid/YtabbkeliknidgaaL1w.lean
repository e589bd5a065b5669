/- The walks of package lex: words. -/
import Derived.Test.YtabbkeliknidgaaProg
import Derived.Test.YtabbkeliknidgaaGw
namespace Go.Proofs.Ytabbkeliknidgaa
open Go.RowKit
set_option linter.unusedVariables false
set_option linter.unusedSimpArgs false
theorem und_txt : Try.prog.underlying 9 = some .string := by kernel_rfl
theorem ix_txt (t : ByteArray) (k : Int) (h0 : 0 ≤ k) (h1 : k < t.size) (w : World) : (Instr.index 9 (.string t) (.int .i64 k)).run Try.prog w = .ok (.int .u8 (bt t k.toNat)) w := by
  have hb := bt_get t k.toNat (by omega)
  simp [Instr.index, asIntOf, run_underlying und_txt, h0, h1]
  exact hb
theorem aT26_agg (w : World) : (isAgg 26).run Try.prog w = .ok true w := by kernel_rfl
theorem aT26_size (w : World) : (sizeOf 26).run Try.prog w = .ok 3 w := by kernel_rfl
theorem aT26_zero (w : World) : (zeroValue 26).run Try.prog w = .ok (.agg #[.int .i64 0, .int .i64 0, .int .i64 0]) w := by kernel_rfl
theorem aT26 : AggT Try.prog 26 3 #[.int .i64 0, .int .i64 0, .int .i64 0] := ⟨aT26_agg, aT26_size, aT26_zero, by first | rfl | decide⟩
theorem us22 : Try.prog.underlying 22 = some (.slice 9) := by kernel_rfl
theorem sT9 : ScT Try.prog 9 := ⟨fun w => by kernel_rfl, fun w => by kernel_rfl⟩
theorem fa26_2_0 (g : Nat) (w : World) : (Instr.fieldAt 26 (.pointer (some ⟨g, 0, none⟩)) 2).run Try.prog w = .ok (.pointer (some ⟨g, 2, none⟩)) w := by kernel_rfl
theorem sT24 : ScT Try.prog 24 := ⟨fun w => by kernel_rfl, fun w => by kernel_rfl⟩
theorem fa26_1_0 (g : Nat) (w : World) : (Instr.fieldAt 26 (.pointer (some ⟨g, 0, none⟩)) 1).run Try.prog w = .ok (.pointer (some ⟨g, 1, none⟩)) w := by kernel_rfl
theorem sT3 : ScT Try.prog 3 := ⟨fun w => by kernel_rfl, fun w => by kernel_rfl⟩
theorem fa26_0_0 (g : Nat) (w : World) : (Instr.fieldAt 26 (.pointer (some ⟨g, 0, none⟩)) 0).run Try.prog w = .ok (.pointer (some ⟨g, 0, none⟩)) w := by kernel_rfl
/-! i_lex_there: function 27 -/
def i_lex_there.f (a0 : ByteArray) (a1 : Int) : Option (Bool) := if a1 ≥ 0 then (some (decide (a1 ≤ (a0.size : Int)))) else (some false)
set_option maxHeartbeats 40000000 in
set_option maxRecDepth 100000 in
theorem i_lex_there.calls (a0 : ByteArray) (a1 : Int) (r1 : Bool) (w : World) (h : i_lex_there.f a0 a1 = some r1) :
    Calls Try.prog 27 #[.string a0, .int .i64 a1] w fun e w' => e = .returned (.bool r1) ∧ w = w' := by
  have H : (if a1 ≥ 0 then (some (decide (a1 ≤ (a0.size : Int)))) else (some false)) = some r1 := h
  clear h
  by_cases c1 : a1 ≥ 0
  · rw [if_pos c1] at H
    have c1b0 : decide (0 ≤ a1) = true := decide_eq_true c1
    have hc1 := hid c1
    clear c1
    obtain rfl := Option.some.inj H
    clear H
    go_enter Try.func27, Try.ntmps27
    go_wp2_with fail
    (try simp only [Act.put, List.setIfInBounds_toArray, List.set_cons_zero, List.set_cons_succ])
    go_ret
    exact ⟨by first | rfl | (simp; done) | (simp [*]; done), rfl⟩
  · rw [if_neg c1] at H
    have c1b0 : decide (0 ≤ a1) = false := decide_eq_false c1
    have hc1 := hid c1
    clear c1
    obtain rfl := Option.some.inj H
    clear H
    go_enter Try.func27, Try.ntmps27
    go_wp2_with fail
    (try simp only [Act.put, List.setIfInBounds_toArray, List.set_cons_zero, List.set_cons_succ])
    go_ret
    exact ⟨by first | rfl | (simp; done) | (simp [*]; done), rfl⟩
/-! i_lex_wrong: function 28 -/
def i_lex_wrong.f  : Option (Int × Int × Int) := some (0, 0, 5)
set_option maxHeartbeats 40000000 in
set_option maxRecDepth 100000 in
theorem i_lex_wrong.calls (r1 : Int) (r2 : Int) (r3 : Int) (w : World) (h : i_lex_wrong.f = some (r1, r2, r3)) :
    Calls Try.prog 28 #[] w fun e w' => e = .returned (.agg #[.int .i64 r1, .int .i64 r2, .int .i64 r3]) ∧ Below w.heap.size w w' := by
  have HL := hid (Below.refl w.heap.size w)
  have H : (some (0, 0, 5)) = some (r1, r2, r3) := h
  clear h
  simp only [Option.some.injEq, Prod.mk.injEq] at H
  obtain ⟨rfl, rfl, rfl⟩ := H
  go_enter Try.func28, Try.ntmps28
  go_wp2_with (first
    | ((with_reducible refine gate_d (N := 0) rfl ?_); obtain ⟨gb2, hgb2⟩ : ∃ g_, w.heap.size = g_ := ⟨_, rfl⟩; refine ag_alloc aT26 gb2 hgb2 rfl rfl ?_; intro w3 hb_ hB_ hs_; have GEb2 : Hid (w.heap.size ≤ gb2) := hid (by have := HL.out.size; omega); replace HL := hid (HL.out.trans (hb_.mono GEb2.out)); have BKb2 := hid hB_; clear hb_ hB_ hs_ hgb2)
    | ((with_reducible refine gate_d (N := 1) rfl ?_); refine ag_build (.agg #[.int .i64 0, .int .i64 0, .int .i64 5]) _ rfl rfl ?_ ?_; (intro ww_; simp only [List.map_toArray, List.map_cons, List.map_nil]; kernel_rfl))
    | ((with_reducible refine gate_s (t := 26) (p := 0) rfl ?_); refine ag_store aT26 gb2 0 #[.int .i64 0, .int .i64 0, .int .i64 0] #[.int .i64 0, .int .i64 0, .int .i64 5] #[.int .i64 0, .int .i64 0, .int .i64 5] BKb2.out rfl (by simp) (by intro v_ hv_; simp at hv_; rcases hv_ with rfl | rfl | rfl <;> first | rfl) rfl rfl _ _ rfl rfl rfl ?_; intro w4 ho_ hB_; replace HL := hid (ho_.below HL.out GEb2.out); replace BKb2 := hid hB_; clear ho_ hB_))
  (try simp only [Act.put, List.setIfInBounds_toArray, List.set_cons_zero, List.set_cons_succ])
  refine bodyPost_ret (v := .agg #[.int .i64 0, .int .i64 0, .int .i64 5]) (res_c aT26 rfl _ gb2 #[.int .i64 0, .int .i64 0, .int .i64 5] BKb2.out rfl rfl) rfl ?_
  exact ⟨by first | rfl | (simp; done) | (simp [*]; done), HL.out⟩
/-! i_lex_Word: function 10 -/
def i_lex_Word.l0 : Nat → ByteArray → Int → ByteArray → Int → Option (Int × Int × Int)
  | 0, _, _, _, _ => none
  | k + 1, a0, a1, a2, x15_0 => if x15_0 < (a2.size : Int) then (if (wrap64 (a1 + x15_0)) = (a0.size : Int) then (some ((a0.size : Int), 0, 1)) else (if 0 ≤ (wrap64 (a1 + x15_0)) then (if (wrap64 (a1 + x15_0)) < (a0.size : Int) then (if 0 ≤ x15_0 then (if (bt a0 (wrap64 (a1 + x15_0)).toNat) = (bt a2 x15_0.toNat) then (i_lex_Word.l0 k a0 a1 a2 (wrap64 (x15_0 + 1))) else (some (wrap64 (a1 + x15_0), 0, 2))) else (none)) else (none)) else (none))) else (some (wrap64 (a1 + (a2.size : Int)), 0, 0))
def i_lex_Word.f (k : Nat) (a0 : ByteArray) (a1 : Int) (a2 : ByteArray) : Option (Int × Int × Int) := (i_lex_there.f a0 a1).bind fun t6 => (if t6 = true then (i_lex_Word.l0 k a0 a1 a2 0) else ((i_lex_wrong.f).bind fun bt7 => (some (bt7.1, bt7.2.1, bt7.2.2))))
set_option maxHeartbeats 40000000 in
set_option maxRecDepth 100000 in
theorem i_lex_Word.calls (k : Nat) (a0 : ByteArray) (a1 : Int) (a2 : ByteArray) (r1 : Int) (r2 : Int) (r3 : Int) (w : World) (h : i_lex_Word.f k a0 a1 a2 = some (r1, r2, r3)) :
    Calls Try.prog 10 #[.string a0, .int .i64 a1, .string a2] w fun e w' => e = .returned (.agg #[.int .i64 r1, .int .i64 r2, .int .i64 r3]) ∧ Below w.heap.size w w' := by
  have HL := hid (Below.refl w.heap.size w)
  have H : ((i_lex_there.f a0 a1).bind fun t6 => (if t6 = true then (i_lex_Word.l0 k a0 a1 a2 0) else ((i_lex_wrong.f).bind fun bt7 => (some (bt7.1, bt7.2.1, bt7.2.2))))) = some (r1, r2, r3) := h
  clear h
  replace H := Option.bind_eq_some_iff.mp H
  obtain ⟨t6, A10_, H⟩ := H
  replace H : (if t6 = true then (i_lex_Word.l0 k a0 a1 a2 0) else ((i_lex_wrong.f).bind fun bt7 => (some (bt7.1, bt7.2.1, bt7.2.2)))) = some (r1, r2, r3) := H
  have A10 := hid A10_
  clear A10_
  cases t6 with
  | true =>
    rw [if_pos rfl] at H
    have H' := hid H
    clear H
    go_enter Try.func10, Try.ntmps10
    have k13 := True.intro
    go_wp2_with (first
      | ((with_reducible refine gate_d (N := 6) rfl ?_); obtain ⟨gb5, hgb5⟩ : ∃ g_, w.heap.size = g_ := ⟨_, rfl⟩; refine ag_alloc aT26 gb5 hgb5 rfl rfl ?_; intro w12 hb_ hB_ hs_; have GEb5 : Hid (w.heap.size ≤ gb5) := hid (by have := HL.out.size; omega); replace HL := hid (HL.out.trans (hb_.mono GEb5.out)); have BKb5 := hid hB_; clear hb_ hB_ hs_ hgb5)
      | (go_at_call 27; clear k13; refine (i_lex_there.calls a0 a1 true _ A10.out).mono ?_; rintro e_ w' ⟨rfl, rfl⟩))
    (try simp only [Act.put, List.setIfInBounds_toArray, List.set_cons_zero, List.set_cons_succ])
    go_loopg [15] k (fun kq v15 w' => ∃ (x15_0 : Int), v15 = .int .i64 x15_0 ∧ Hid (i_lex_Word.l0 kq a0 a1 a2 x15_0 = some (r1, r2, r3)) ∧ Hid (kq ≤ k) ∧ Hid (Blk w' gb5 26 #[.int .i64 0, .int .i64 0, .int .i64 0]) ∧ Hid (Below w.heap.size w w'))
    case atStart => exact ⟨(0 : Int), (by first | rfl | (simp; done) | (simp [*]; done)), H', (hid (by first | omega | (omega))), (hid (by exact BKb5.out)), HL⟩
    case round =>
      clear H'
      clear HL BKb5
      obtain ⟨x15_0, rfl, HA, HK14, BKb5, HL⟩ := hrel
      cases gk with
      | zero => exact absurd HA.out (by simp [i_lex_Word.l0])
      | succ k15 =>
        have H := HA.out
        clear HA
        simp only [i_lex_Word.l0] at H
        by_cases c16 : x15_0 < (a2.size : Int)
        · rw [if_pos c16] at H
          have c16b0 : decide (x15_0 < (a2.size : Int)) = true := decide_eq_true c16
          have hc16 := hid c16
          clear c16
          by_cases c17 : (wrap64 (a1 + x15_0)) = (a0.size : Int)
          · rw [if_pos c17] at H
            have c17b0 : ((wrap64 (a1 + x15_0)) == (a0.size : Int)) = true := beq_iff_eq.mpr c17
            have c17b1 : ((wrap64 (a1 + x15_0)) != (a0.size : Int)) = false := bne_eq_false_iff_eq.mpr c17
            have hc17 := hid c17
            clear c17
            simp only [Option.some.injEq, Prod.mk.injEq] at H
            obtain ⟨rfl, rfl, rfl⟩ := H
            go_wp2_with (first
              | ((with_reducible refine gate_d (N := 27) rfl ?_); refine ag_build (.agg #[.int .i64 (a0.size : Int), .int .i64 0, .int .i64 1]) _ rfl rfl ?_ ?_; (intro ww_; simp only [List.map_toArray, List.map_cons, List.map_nil]; kernel_rfl))
              | ((with_reducible refine gate_s (t := 26) (p := 6) rfl ?_); refine ag_store aT26 gb5 0 #[.int .i64 0, .int .i64 0, .int .i64 0] #[.int .i64 (a0.size : Int), .int .i64 0, .int .i64 1] #[.int .i64 (a0.size : Int), .int .i64 0, .int .i64 1] BKb5.out rfl (by simp) (by intro v_ hv_; simp at hv_; rcases hv_ with rfl | rfl | rfl <;> first | rfl) rfl rfl _ _ rfl rfl rfl ?_; intro w18 ho_ hB_; replace HL := hid (ho_.below HL.out GEb5.out); replace BKb5 := hid hB_; clear ho_ hB_))
            (try simp only [Act.put, List.setIfInBounds_toArray, List.set_cons_zero, List.set_cons_succ])
            refine bodyPost_ret (v := .agg #[.int .i64 (a0.size : Int), .int .i64 0, .int .i64 1]) (res_c aT26 rfl _ gb5 #[.int .i64 (a0.size : Int), .int .i64 0, .int .i64 1] BKb5.out rfl rfl) rfl ?_
            exact ⟨by first | rfl | (simp; done) | (simp [*]; done), HL.out⟩
          · rw [if_neg c17] at H
            have c17b0 : ((wrap64 (a1 + x15_0)) == (a0.size : Int)) = false := beq_eq_false_iff_ne.mpr c17
            have c17b1 : ((wrap64 (a1 + x15_0)) != (a0.size : Int)) = true := bne_iff_ne.mpr c17
            have hc17 := hid c17
            clear c17
            by_cases c19 : 0 ≤ (wrap64 (a1 + x15_0))
            · rw [if_pos c19] at H
              have c19b0 : decide (0 ≤ (wrap64 (a1 + x15_0))) = true := decide_eq_true c19
              have hc19 := hid c19
              clear c19
              by_cases c20 : (wrap64 (a1 + x15_0)) < (a0.size : Int)
              · rw [if_pos c20] at H
                have c20b0 : decide ((wrap64 (a1 + x15_0)) < (a0.size : Int)) = true := decide_eq_true c20
                have hc20 := hid c20
                clear c20
                by_cases c21 : 0 ≤ x15_0
                · rw [if_pos c21] at H
                  have c21b0 : decide (0 ≤ x15_0) = true := decide_eq_true c21
                  have hc21 := hid c21
                  clear c21
                  by_cases c22 : (bt a0 (wrap64 (a1 + x15_0)).toNat) = (bt a2 x15_0.toNat)
                  · rw [if_pos c22] at H
                    have c22b0 : ((bt a0 (wrap64 (a1 + x15_0)).toNat) == (bt a2 x15_0.toNat)) = true := beq_iff_eq.mpr c22
                    have c22b1 : ((bt a0 (wrap64 (a1 + x15_0)).toNat) != (bt a2 x15_0.toNat)) = false := bne_eq_false_iff_eq.mpr c22
                    have hc22 := hid c22
                    clear c22
                    have H' := hid H
                    clear H
                    go_wp2_with fail
                    (try simp only [Act.put, List.setIfInBounds_toArray, List.set_cons_zero, List.set_cons_succ])
                    have WR64 := i64_w
                    have WR32 := i32_w
                    refine up_regionW (by kernel_rfl) (by kernel_rfl) ?_
                    refine q_do (.string a0) (fun w'_ hc_ => ex_mv (.tmp 0) (.inl rfl) _ rfl) rfl rfl ?_
                    intro ts_ ht_; simp only [List.setIfInBounds_toArray, List.set_cons_zero, List.set_cons_succ] at ht_; subst ht_
                    refine q_do (.int .i64 a1) (fun w'_ hc_ => ex_mv (.tmp 1) (.inl rfl) _ rfl) rfl rfl ?_
                    intro ts_ ht_; simp only [List.setIfInBounds_toArray, List.set_cons_zero, List.set_cons_succ] at ht_; subst ht_
                    refine q_do (.int .i64 x15_0) (fun w'_ hc_ => ex_mv (.tmp 7) (.inl rfl) _ rfl) rfl rfl ?_
                    intro ts_ ht_; simp only [List.setIfInBounds_toArray, List.set_cons_zero, List.set_cons_succ] at ht_; subst ht_
                    refine q_do (.int .i64 (wrap64 (a1 + x15_0))) (fun w'_ hc_ => by go_simp) rfl rfl ?_
                    intro ts_ ht_; simp only [List.setIfInBounds_toArray, List.set_cons_zero, List.set_cons_succ] at ht_; subst ht_
                    refine q_do (.int .u8 (bt a0 (wrap64 (a1 + x15_0)).toNat)) (fun w'_ hc_ => by obtain ⟨n_, hn_⟩ := hc_; exact ex_ix 9 (.string a0) (.int .i64 (wrap64 (a1 + x15_0))) (.int .u8 (bt a0 (wrap64 (a1 + x15_0)).toNat)) (ix_txt a0 (wrap64 (a1 + x15_0)) hc19.out hc20.out) _ _ rfl rfl rfl) rfl rfl ?_
                    intro ts_ ht_; simp only [List.setIfInBounds_toArray, List.set_cons_zero, List.set_cons_succ] at ht_; subst ht_
                    refine q_do (.string a2) (fun w'_ hc_ => ex_mv (.tmp 2) (.inl rfl) _ rfl) rfl rfl ?_
                    intro ts_ ht_; simp only [List.setIfInBounds_toArray, List.set_cons_zero, List.set_cons_succ] at ht_; subst ht_
                    refine q_do (.int .i64 x15_0) (fun w'_ hc_ => ex_mv (.tmp 7) (.inl rfl) _ rfl) rfl rfl ?_
                    intro ts_ ht_; simp only [List.setIfInBounds_toArray, List.set_cons_zero, List.set_cons_succ] at ht_; subst ht_
                    refine q_do (.int .u8 (bt a2 x15_0.toNat)) (fun w'_ hc_ => by obtain ⟨n_, hn_⟩ := hc_; exact ex_ix 9 (.string a2) (.int .i64 x15_0) (.int .u8 (bt a2 x15_0.toNat)) (ix_txt a2 x15_0 hc21.out hc16.out) _ _ rfl rfl rfl) rfl rfl ?_
                    intro ts_ ht_; simp only [List.setIfInBounds_toArray, List.set_cons_zero, List.set_cons_succ] at ht_; subst ht_
                    refine q_do (.bool false) (fun w'_ hc_ => by go_simp) rfl rfl ?_
                    intro ts_ ht_; simp only [List.setIfInBounds_toArray, List.set_cons_zero, List.set_cons_succ] at ht_; subst ht_
                    refine q_do (.bool false) (fun w'_ hc_ => ex_mv (.tmp 37) (.inr rfl) _ rfl) rfl rfl ?_
                    intro ts_ ht_; simp only [List.setIfInBounds_toArray, List.set_cons_zero, List.set_cons_succ] at ht_; subst ht_
                    refine q_end ?_
                    rintro w8_ ⟨n_, rfl⟩
                    replace BKb5 := hid (BKb5.out.below n_.below BKb5.out.lt)
                    replace HL := hid (HL.out.trans (n_.below.mono HL.out.size))
                    generalize n_.world = w23 at *
                    clear n_ WR64 WR32
                    go_wp2_with fail
                    (try simp only [Act.put, List.setIfInBounds_toArray, List.set_cons_zero, List.set_cons_succ])
                    go_roundg k15
                    case measure => have := HK14.out; omega
                    case rel => exact ⟨wrap64 (x15_0 + 1), (by first | rfl | (simp; done) | (simp [*]; done)), H', (hid (by first | omega | (have := HK14.out; omega))), (hid (by exact BKb5.out)), HL⟩
                  · rw [if_neg c22] at H
                    have c22b0 : ((bt a0 (wrap64 (a1 + x15_0)).toNat) == (bt a2 x15_0.toNat)) = false := beq_eq_false_iff_ne.mpr c22
                    have c22b1 : ((bt a0 (wrap64 (a1 + x15_0)).toNat) != (bt a2 x15_0.toNat)) = true := bne_iff_ne.mpr c22
                    have hc22 := hid c22
                    clear c22
                    simp only [Option.some.injEq, Prod.mk.injEq] at H
                    obtain ⟨rfl, rfl, rfl⟩ := H
                    go_wp2_with fail
                    (try simp only [Act.put, List.setIfInBounds_toArray, List.set_cons_zero, List.set_cons_succ])
                    have WR64 := i64_w
                    have WR32 := i32_w
                    refine up_regionW (by kernel_rfl) (by kernel_rfl) ?_
                    refine q_do (.string a0) (fun w'_ hc_ => ex_mv (.tmp 0) (.inl rfl) _ rfl) rfl rfl ?_
                    intro ts_ ht_; simp only [List.setIfInBounds_toArray, List.set_cons_zero, List.set_cons_succ] at ht_; subst ht_
                    refine q_do (.int .i64 a1) (fun w'_ hc_ => ex_mv (.tmp 1) (.inl rfl) _ rfl) rfl rfl ?_
                    intro ts_ ht_; simp only [List.setIfInBounds_toArray, List.set_cons_zero, List.set_cons_succ] at ht_; subst ht_
                    refine q_do (.int .i64 x15_0) (fun w'_ hc_ => ex_mv (.tmp 7) (.inl rfl) _ rfl) rfl rfl ?_
                    intro ts_ ht_; simp only [List.setIfInBounds_toArray, List.set_cons_zero, List.set_cons_succ] at ht_; subst ht_
                    refine q_do (.int .i64 (wrap64 (a1 + x15_0))) (fun w'_ hc_ => by go_simp) rfl rfl ?_
                    intro ts_ ht_; simp only [List.setIfInBounds_toArray, List.set_cons_zero, List.set_cons_succ] at ht_; subst ht_
                    refine q_do (.int .u8 (bt a0 (wrap64 (a1 + x15_0)).toNat)) (fun w'_ hc_ => by obtain ⟨n_, hn_⟩ := hc_; exact ex_ix 9 (.string a0) (.int .i64 (wrap64 (a1 + x15_0))) (.int .u8 (bt a0 (wrap64 (a1 + x15_0)).toNat)) (ix_txt a0 (wrap64 (a1 + x15_0)) hc19.out hc20.out) _ _ rfl rfl rfl) rfl rfl ?_
                    intro ts_ ht_; simp only [List.setIfInBounds_toArray, List.set_cons_zero, List.set_cons_succ] at ht_; subst ht_
                    refine q_do (.string a2) (fun w'_ hc_ => ex_mv (.tmp 2) (.inl rfl) _ rfl) rfl rfl ?_
                    intro ts_ ht_; simp only [List.setIfInBounds_toArray, List.set_cons_zero, List.set_cons_succ] at ht_; subst ht_
                    refine q_do (.int .i64 x15_0) (fun w'_ hc_ => ex_mv (.tmp 7) (.inl rfl) _ rfl) rfl rfl ?_
                    intro ts_ ht_; simp only [List.setIfInBounds_toArray, List.set_cons_zero, List.set_cons_succ] at ht_; subst ht_
                    refine q_do (.int .u8 (bt a2 x15_0.toNat)) (fun w'_ hc_ => by obtain ⟨n_, hn_⟩ := hc_; exact ex_ix 9 (.string a2) (.int .i64 x15_0) (.int .u8 (bt a2 x15_0.toNat)) (ix_txt a2 x15_0 hc21.out hc16.out) _ _ rfl rfl rfl) rfl rfl ?_
                    intro ts_ ht_; simp only [List.setIfInBounds_toArray, List.set_cons_zero, List.set_cons_succ] at ht_; subst ht_
                    refine q_do (.bool true) (fun w'_ hc_ => by go_simp) rfl rfl ?_
                    intro ts_ ht_; simp only [List.setIfInBounds_toArray, List.set_cons_zero, List.set_cons_succ] at ht_; subst ht_
                    refine q_do (.bool true) (fun w'_ hc_ => ex_mv (.tmp 37) (.inr rfl) _ rfl) rfl rfl ?_
                    intro ts_ ht_; simp only [List.setIfInBounds_toArray, List.set_cons_zero, List.set_cons_succ] at ht_; subst ht_
                    refine q_end ?_
                    rintro w8_ ⟨n_, rfl⟩
                    replace BKb5 := hid (BKb5.out.below n_.below BKb5.out.lt)
                    replace HL := hid (HL.out.trans (n_.below.mono HL.out.size))
                    generalize n_.world = w24 at *
                    clear n_ WR64 WR32
                    go_wp2_with (first
                      | ((with_reducible refine gate_d (N := 41) rfl ?_); refine ag_build (.agg #[.int .i64 (wrap64 (a1 + x15_0)), .int .i64 0, .int .i64 2]) _ rfl rfl ?_ ?_; (intro ww_; simp only [List.map_toArray, List.map_cons, List.map_nil]; kernel_rfl))
                      | ((with_reducible refine gate_s (t := 26) (p := 6) rfl ?_); refine ag_store aT26 gb5 0 #[.int .i64 0, .int .i64 0, .int .i64 0] #[.int .i64 (wrap64 (a1 + x15_0)), .int .i64 0, .int .i64 2] #[.int .i64 (wrap64 (a1 + x15_0)), .int .i64 0, .int .i64 2] BKb5.out rfl (by simp) (by intro v_ hv_; simp at hv_; rcases hv_ with rfl | rfl | rfl <;> first | rfl) rfl rfl _ _ rfl rfl rfl ?_; intro w25 ho_ hB_; replace HL := hid (ho_.below HL.out GEb5.out); replace BKb5 := hid hB_; clear ho_ hB_))
                    (try simp only [Act.put, List.setIfInBounds_toArray, List.set_cons_zero, List.set_cons_succ])
                    refine bodyPost_ret (v := .agg #[.int .i64 (wrap64 (a1 + x15_0)), .int .i64 0, .int .i64 2]) (res_c aT26 rfl _ gb5 #[.int .i64 (wrap64 (a1 + x15_0)), .int .i64 0, .int .i64 2] BKb5.out rfl rfl) rfl ?_
                    exact ⟨by first | rfl | (simp; done) | (simp [*]; done), HL.out⟩
                · rw [if_neg c21] at H
                  exact absurd H (by simp)
              · rw [if_neg c20] at H
                exact absurd H (by simp)
            · rw [if_neg c19] at H
              exact absurd H (by simp)
        · rw [if_neg c16] at H
          have c16b0 : decide (x15_0 < (a2.size : Int)) = false := decide_eq_false c16
          have hc16 := hid c16
          clear c16
          simp only [Option.some.injEq, Prod.mk.injEq] at H
          obtain ⟨rfl, rfl, rfl⟩ := H
          go_wp2_with (first
            | ((with_reducible refine gate_d (N := 47) rfl ?_); refine ag_build (.agg #[.int .i64 (wrap64 (a1 + (a2.size : Int))), .int .i64 0, .int .i64 0]) _ rfl rfl ?_ ?_; (intro ww_; simp only [List.map_toArray, List.map_cons, List.map_nil]; kernel_rfl))
            | ((with_reducible refine gate_s (t := 26) (p := 6) rfl ?_); refine ag_store aT26 gb5 0 #[.int .i64 0, .int .i64 0, .int .i64 0] #[.int .i64 (wrap64 (a1 + (a2.size : Int))), .int .i64 0, .int .i64 0] #[.int .i64 (wrap64 (a1 + (a2.size : Int))), .int .i64 0, .int .i64 0] BKb5.out rfl (by simp) (by intro v_ hv_; simp at hv_; rcases hv_ with rfl | rfl | rfl <;> first | rfl) rfl rfl _ _ rfl rfl rfl ?_; intro w26 ho_ hB_; replace HL := hid (ho_.below HL.out GEb5.out); replace BKb5 := hid hB_; clear ho_ hB_))
          (try simp only [Act.put, List.setIfInBounds_toArray, List.set_cons_zero, List.set_cons_succ])
          refine bodyPost_ret (v := .agg #[.int .i64 (wrap64 (a1 + (a2.size : Int))), .int .i64 0, .int .i64 0]) (res_c aT26 rfl _ gb5 #[.int .i64 (wrap64 (a1 + (a2.size : Int))), .int .i64 0, .int .i64 0] BKb5.out rfl rfl) rfl ?_
          exact ⟨by first | rfl | (simp; done) | (simp [*]; done), HL.out⟩
  | false =>
    rw [if_neg (show ¬ (false = true) by decide)] at H
    replace H := Option.bind_eq_some_iff.mp H
    obtain ⟨⟨t7, t8, t9⟩, A27_, H⟩ := H
    replace H : (some (t7, t8, t9)) = some (r1, r2, r3) := H
    have A27 := hid A27_
    clear A27_
    simp only [Option.some.injEq, Prod.mk.injEq] at H
    obtain ⟨rfl, rfl, rfl⟩ := H
    go_enter Try.func10, Try.ntmps10
    have k29 := True.intro
    have k30 := True.intro
    go_wp2_with (first
      | ((with_reducible refine gate_d (N := 6) rfl ?_); obtain ⟨gb5, hgb5⟩ : ∃ g_, w.heap.size = g_ := ⟨_, rfl⟩; refine ag_alloc aT26 gb5 hgb5 rfl rfl ?_; intro w28 hb_ hB_ hs_; have GEb5 : Hid (w.heap.size ≤ gb5) := hid (by have := HL.out.size; omega); replace HL := hid (HL.out.trans (hb_.mono GEb5.out)); have BKb5 := hid hB_; clear hb_ hB_ hs_ hgb5)
      | (go_at_call 27; clear k29; refine (i_lex_there.calls a0 a1 false _ A10.out).mono ?_; rintro e_ w' ⟨rfl, rfl⟩)
      | (go_at_call 28; clear k30; refine (i_lex_wrong.calls t7 t8 t9 _ A27.out).mono ?_; rintro e_ w31 ⟨rfl, hb_⟩; replace BKb5 := hid (BKb5.out.below hb_ BKb5.out.lt); replace HL := hid (HL.out.trans (hb_.mono HL.out.size)); clear hb_)
      | ((with_reducible refine gate_s (t := 26) (p := 6) rfl ?_); refine ag_store aT26 gb5 0 #[.int .i64 0, .int .i64 0, .int .i64 0] #[.int .i64 t7, .int .i64 t8, .int .i64 t9] #[.int .i64 t7, .int .i64 t8, .int .i64 t9] BKb5.out rfl (by simp) (by intro v_ hv_; simp at hv_; rcases hv_ with rfl | rfl | rfl <;> first | rfl) rfl rfl _ _ rfl rfl rfl ?_; intro w32 ho_ hB_; replace HL := hid (ho_.below HL.out GEb5.out); replace BKb5 := hid hB_; clear ho_ hB_))
    (try simp only [Act.put, List.setIfInBounds_toArray, List.set_cons_zero, List.set_cons_succ])
    refine bodyPost_ret (v := .agg #[.int .i64 t7, .int .i64 t8, .int .i64 t9]) (res_c aT26 rfl _ gb5 #[.int .i64 t7, .int .i64 t8, .int .i64 t9] BKb5.out rfl rfl) rfl ?_
    exact ⟨by first | rfl | (simp; done) | (simp [*]; done), HL.out⟩
/-! i_stringslite_HasPrefix: function 67 -/
def i_stringslite_HasPrefix.f (a0 : ByteArray) (a1 : ByteArray) : Option (Bool) := if (a0.size : Int) ≥ (a1.size : Int) then (if 0 ≤ (a1.size : Int) then (if (a1.size : Int) ≤ (a0.size : Int) then (some ((a0.extract 0 a1.size).toList == a1.toList)) else (none)) else (none)) else (some false)
set_option maxHeartbeats 40000000 in
set_option maxRecDepth 100000 in
theorem i_stringslite_HasPrefix.calls (a0 : ByteArray) (a1 : ByteArray) (r1 : Bool) (w : World) (h : i_stringslite_HasPrefix.f a0 a1 = some r1) :
    Calls Try.prog 67 #[.string a0, .string a1] w fun e w' => e = .returned (.bool r1) ∧ w = w' := by
  have H : (if (a0.size : Int) ≥ (a1.size : Int) then (if 0 ≤ (a1.size : Int) then (if (a1.size : Int) ≤ (a0.size : Int) then (some ((a0.extract 0 a1.size).toList == a1.toList)) else (none)) else (none)) else (some false)) = some r1 := h
  clear h
  by_cases c33 : (a0.size : Int) ≥ (a1.size : Int)
  · rw [if_pos c33] at H
    have c33b0 : decide ((a1.size : Int) ≤ (a0.size : Int)) = true := decide_eq_true c33
    have c33b1 : decide (a1.size ≤ a0.size) = true := decide_eq_true (Int.ofNat_le.mp c33)
    have hc33 := hid c33
    clear c33
    by_cases c34 : 0 ≤ (a1.size : Int)
    · rw [if_pos c34] at H
      have c34b0 : decide (0 ≤ (a1.size : Int)) = true := decide_eq_true c34
      have c34b1 : decide (0 ≤ a1.size) = true := decide_eq_true (by omega)
      have hc34 := hid c34
      clear c34
      by_cases c35 : (a1.size : Int) ≤ (a0.size : Int)
      · rw [if_pos c35] at H
        have c35b0 : decide ((a1.size : Int) ≤ (a0.size : Int)) = true := decide_eq_true c35
        have c35b1 : decide (a1.size ≤ a0.size) = true := decide_eq_true (Int.ofNat_le.mp c35)
        have hc35 := hid c35
        clear c35
        obtain rfl := Option.some.inj H
        clear H
        go_enter Try.func67, Try.ntmps67
        go_wp2_with (first
          | ((with_reducible refine gate_d (N := 14) rfl ?_); refine ag_fix (.string (a0.extract 0 a1.size)) (ex_cut_h 9 und_txt a0 (a1.size : Int) hc34.out hc35.out _ _ rfl rfl rfl) rfl ?_))
        (try simp only [Act.put, List.setIfInBounds_toArray, List.set_cons_zero, List.set_cons_succ])
        go_ret
        exact ⟨by first | rfl | (simp; done) | (simp [*]; done), rfl⟩
      · rw [if_neg c35] at H
        exact absurd H (by simp)
    · rw [if_neg c34] at H
      exact absurd H (by simp)
  · rw [if_neg c33] at H
    have c33b0 : decide ((a1.size : Int) ≤ (a0.size : Int)) = false := decide_eq_false c33
    have c33b1 : decide (a1.size ≤ a0.size) = false := decide_eq_false (fun h => c33 (Int.ofNat_le.mpr h))
    have hc33 := hid c33
    clear c33
    obtain rfl := Option.some.inj H
    clear H
    go_enter Try.func67, Try.ntmps67
    go_wp2_with fail
    (try simp only [Act.put, List.setIfInBounds_toArray, List.set_cons_zero, List.set_cons_succ])
    go_ret
    exact ⟨by first | rfl | (simp; done) | (simp [*]; done), rfl⟩
/-! i_strings_HasPrefix: function 44 -/
def i_strings_HasPrefix.f (a0 : ByteArray) (a1 : ByteArray) : Option (Bool) := (i_stringslite_HasPrefix.f a0 a1).bind fun t36 => (some t36)
set_option maxHeartbeats 40000000 in
set_option maxRecDepth 100000 in
theorem i_strings_HasPrefix.calls (a0 : ByteArray) (a1 : ByteArray) (r1 : Bool) (w : World) (h : i_strings_HasPrefix.f a0 a1 = some r1) :
    Calls Try.prog 44 #[.string a0, .string a1] w fun e w' => e = .returned (.bool r1) ∧ w = w' := by
  have H : ((i_stringslite_HasPrefix.f a0 a1).bind fun t36 => (some t36)) = some r1 := h
  clear h
  replace H := Option.bind_eq_some_iff.mp H
  obtain ⟨t36, A37_, H⟩ := H
  replace H : (some t36) = some r1 := H
  have A37 := hid A37_
  clear A37_
  obtain rfl := Option.some.inj H
  clear H
  go_enter Try.func44, Try.ntmps44
  have k38 := True.intro
  go_wp2_with (first
    | (go_at_call 67; clear k38; refine (i_stringslite_HasPrefix.calls a0 a1 t36 _ A37.out).mono ?_; rintro e_ w' ⟨rfl, rfl⟩))
  (try simp only [Act.put, List.setIfInBounds_toArray, List.set_cons_zero, List.set_cons_succ])
  go_ret
  exact ⟨by first | rfl | (simp; done) | (simp [*]; done), rfl⟩
/-! i_lex_apart: function 31 -/
mutual
def i_lex_apart.l0 : Nat → List ByteArray → Int → Option (Bool)
  | 0, _, _ => none
  | k + 1, a0, x9_0 => if x9_0 < (a0.length : Int) then (if 0 ≤ x9_0 then (i_lex_apart.l1 k a0 x9_0 0) else (none)) else (some (decide ((a0.length : Int) > 0)))
def i_lex_apart.l1 : Nat → List ByteArray → Int → Int → Option (Bool)
  | 0, _, _, _ => none
  | k + 1, a0, x9_0, x16_1 => if x16_1 < (a0.length : Int) then (if 0 ≤ x16_1 then (if (nt a0 x9_0.toNat ByteArray.empty).toList = ([] : List UInt8) then (some false) else (if x9_0 = x16_1 then (i_lex_apart.l1 k a0 x9_0 (wrap64 (x16_1 + 1))) else ((i_strings_HasPrefix.f (nt a0 x16_1.toNat ByteArray.empty) (nt a0 x9_0.toNat ByteArray.empty)).bind fun t48 => (if t48 = true then (some false) else (i_lex_apart.l1 k a0 x9_0 (wrap64 (x16_1 + 1))))))) else (none)) else (i_lex_apart.l0 k a0 (wrap64 (x9_0 + 1)))
end
def i_lex_apart.f (k : Nat) (a0 : List ByteArray) : Option (Bool) := i_lex_apart.l0 k a0 0
set_option maxHeartbeats 40000000 in
set_option maxRecDepth 100000 in
theorem i_lex_apart.calls (k : Nat) (v0_ : Value) (a0 : List ByteArray) (r1 : Bool) (w : World) (hs0 : Sl w v0_ (a0.map Value.string)) (h : i_lex_apart.f k a0 = some r1) :
    Calls Try.prog 31 #[v0_] w fun e w' => e = .returned (.bool r1) ∧ w = w' := by
  have SP0 := hid hs0
  clear hs0
  have H : (i_lex_apart.l0 k a0 0) = some r1 := h
  clear h
  have H' := hid H
  clear H
  go_enter Try.func31, Try.ntmps31
  go_wp2_with (first
    | ((with_reducible refine gate_d (N := 8) rfl ?_); obtain ⟨A49, c50, hv51⟩ := SP0.out.shape; rw [List.length_map] at hv51; refine ag_fix (.int .i64 (a0.length : Int)) (ex_len us22 _ _ _ _ hv51 _ rfl rfl) rfl ?_; clear hv51))
  (try simp only [Act.put, List.setIfInBounds_toArray, List.set_cons_zero, List.set_cons_succ])
  go_loopg [9] k (fun kq v9 w' => ∃ (x9_0 : Int), v9 = .int .i64 x9_0 ∧ Hid (i_lex_apart.l0 kq a0 x9_0 = some r1) ∧ Hid (kq ≤ k) ∧ w = w')
  case atStart => exact ⟨(0 : Int), (by first | rfl | (simp; done) | (simp [*]; done)), H', (hid (by first | omega | (omega))), rfl⟩
  case round =>
    clear H'
    skip
    obtain ⟨x9_0, rfl, HA, HK52, rfl⟩ := hrel
    cases gk with
    | zero => exact absurd HA.out (by simp [i_lex_apart.l0])
    | succ k53 =>
      have H := HA.out
      clear HA
      simp only [i_lex_apart.l0] at H
      by_cases c54 : x9_0 < (a0.length : Int)
      · rw [if_pos c54] at H
        have c54b0 : decide (x9_0 < (a0.length : Int)) = true := decide_eq_true c54
        have hc54 := hid c54
        clear c54
        by_cases c55 : 0 ≤ x9_0
        · rw [if_pos c55] at H
          have c55b0 : decide (0 ≤ x9_0) = true := decide_eq_true c55
          have hc55 := hid c55
          clear c55
          have H' := hid H
          clear H
          go_wp2_with (first
            | ((with_reducible refine gate_d (N := 12) rfl ?_); obtain ⟨ad44, c56, hv57, HCad44_⟩ := Sl.get (l := a0) (f := Value.string) SP0.out ByteArray.empty (i := x9_0) hc55.out hc54.out; have HCad44 := hid HCad44_; clear HCad44_; refine ag_fix (.pointer (some (ad44.add x9_0.toNat))) (ex_sat _ _ x9_0 _ _ hv57 hc55.out hc54.out us22 sT9 _ _ rfl rfl rfl) rfl ?_; clear hv57)
            | ((with_reducible refine gate_d (N := 13) rfl ?_); refine ag_fix (.string (nt a0 x9_0.toNat ByteArray.empty)) (ex_scell sT9 _ _ HCad44.out _ rfl rfl) rfl ?_)
            | ((with_reducible refine gate_d (N := 15) rfl ?_); obtain ⟨A58, c59, hv60⟩ := SP0.out.shape; rw [List.length_map] at hv60; refine ag_fix (.int .i64 (a0.length : Int)) (ex_len us22 _ _ _ _ hv60 _ rfl rfl) rfl ?_; clear hv60))
          (try simp only [Act.put, List.setIfInBounds_toArray, List.set_cons_zero, List.set_cons_succ])
          go_loopg [16] k53 (fun kq v16 w' => ∃ (x16_1 : Int), v16 = .int .i64 x16_1 ∧ Hid (i_lex_apart.l1 kq a0 x9_0 x16_1 = some r1) ∧ Hid (kq ≤ k53) ∧ w = w')
          case atStart => exact ⟨(0 : Int), (by first | rfl | (simp; done) | (simp [*]; done)), H', (hid (by first | omega | (have := HK52.out; omega))), rfl⟩
          case round =>
            clear H'
            skip
            obtain ⟨x16_1, rfl, HA, HK61, rfl⟩ := hrel
            cases gk with
            | zero => exact absurd HA.out (by simp [i_lex_apart.l1])
            | succ k62 =>
              have H := HA.out
              clear HA
              simp only [i_lex_apart.l1] at H
              by_cases c63 : x16_1 < (a0.length : Int)
              · rw [if_pos c63] at H
                have c63b0 : decide (x16_1 < (a0.length : Int)) = true := decide_eq_true c63
                have hc63 := hid c63
                clear c63
                by_cases c64 : 0 ≤ x16_1
                · rw [if_pos c64] at H
                  have c64b0 : decide (0 ≤ x16_1) = true := decide_eq_true c64
                  have hc64 := hid c64
                  clear c64
                  by_cases c65 : (nt a0 x9_0.toNat ByteArray.empty).toList = ([] : List UInt8)
                  · rw [if_pos c65] at H
                    have c65b0 : ((nt a0 x9_0.toNat ByteArray.empty).toList == ([] : List UInt8)) = true := beq_iff_eq.mpr c65
                    have c65b1 : ((nt a0 x9_0.toNat ByteArray.empty).toList != ([] : List UInt8)) = false := bne_eq_false_iff_eq.mpr c65
                    have hc65 := hid c65
                    clear c65
                    obtain rfl := Option.some.inj H
                    clear H
                    go_wp2_with (first
                      | ((with_reducible refine gate_d (N := 19) rfl ?_); obtain ⟨ad47, c66, hv67, HCad47_⟩ := Sl.get (l := a0) (f := Value.string) SP0.out ByteArray.empty (i := x16_1) hc64.out hc63.out; have HCad47 := hid HCad47_; clear HCad47_; refine ag_fix (.pointer (some (ad47.add x16_1.toNat))) (ex_sat _ _ x16_1 _ _ hv67 hc64.out hc63.out us22 sT9 _ _ rfl rfl rfl) rfl ?_; clear hv67)
                      | ((with_reducible refine gate_d (N := 20) rfl ?_); refine ag_fix (.string (nt a0 x16_1.toNat ByteArray.empty)) (ex_scell sT9 _ _ HCad47.out _ rfl rfl) rfl ?_))
                    (try simp only [Act.put, List.setIfInBounds_toArray, List.set_cons_zero, List.set_cons_succ])
                    go_ret
                    exact ⟨by first | rfl | (simp; done) | (simp [*]; done), rfl⟩
                  · rw [if_neg c65] at H
                    have c65b0 : ((nt a0 x9_0.toNat ByteArray.empty).toList == ([] : List UInt8)) = false := beq_eq_false_iff_ne.mpr c65
                    have c65b1 : ((nt a0 x9_0.toNat ByteArray.empty).toList != ([] : List UInt8)) = true := bne_iff_ne.mpr c65
                    have hc65 := hid c65
                    clear c65
                    by_cases c68 : x9_0 = x16_1
                    · rw [if_pos c68] at H
                      have c68b0 : (x9_0 == x16_1) = true := beq_iff_eq.mpr c68
                      have c68b1 : (x9_0 != x16_1) = false := bne_eq_false_iff_eq.mpr c68
                      have hc68 := hid c68
                      clear c68
                      have H' := hid H
                      clear H
                      go_wp2_with (first
                        | ((with_reducible refine gate_d (N := 19) rfl ?_); obtain ⟨ad47, c69, hv70, HCad47_⟩ := Sl.get (l := a0) (f := Value.string) SP0.out ByteArray.empty (i := x16_1) hc64.out hc63.out; have HCad47 := hid HCad47_; clear HCad47_; refine ag_fix (.pointer (some (ad47.add x16_1.toNat))) (ex_sat _ _ x16_1 _ _ hv70 hc64.out hc63.out us22 sT9 _ _ rfl rfl rfl) rfl ?_; clear hv70)
                        | ((with_reducible refine gate_d (N := 20) rfl ?_); refine ag_fix (.string (nt a0 x16_1.toNat ByteArray.empty)) (ex_scell sT9 _ _ HCad47.out _ rfl rfl) rfl ?_))
                      (try simp only [Act.put, List.setIfInBounds_toArray, List.set_cons_zero, List.set_cons_succ])
                      go_roundg k62
                      case measure => have := HK52.out; have := HK61.out; omega
                      case rel => exact ⟨wrap64 (x16_1 + 1), (by first | rfl | (simp; done) | (simp [*]; done)), H', (hid (by first | omega | (have := HK52.out; have := HK61.out; omega))), rfl⟩
                    · rw [if_neg c68] at H
                      have c68b0 : (x9_0 == x16_1) = false := beq_eq_false_iff_ne.mpr c68
                      have c68b1 : (x9_0 != x16_1) = true := bne_iff_ne.mpr c68
                      have hc68 := hid c68
                      clear c68
                      replace H := Option.bind_eq_some_iff.mp H
                      obtain ⟨t48, A71_, H⟩ := H
                      replace H : (if t48 = true then (some false) else (i_lex_apart.l1 k62 a0 x9_0 (wrap64 (x16_1 + 1)))) = some r1 := H
                      have A71 := hid A71_
                      clear A71_
                      cases t48 with
                      | true =>
                        rw [if_pos rfl] at H
                        obtain rfl := Option.some.inj H
                        clear H
                        have k75 := True.intro
                        go_wp2_with (first
                          | ((with_reducible refine gate_d (N := 19) rfl ?_); obtain ⟨ad47, c73, hv74, HCad47_⟩ := Sl.get (l := a0) (f := Value.string) SP0.out ByteArray.empty (i := x16_1) hc64.out hc63.out; have HCad47 := hid HCad47_; clear HCad47_; refine ag_fix (.pointer (some (ad47.add x16_1.toNat))) (ex_sat _ _ x16_1 _ _ hv74 hc64.out hc63.out us22 sT9 _ _ rfl rfl rfl) rfl ?_; clear hv74)
                          | ((with_reducible refine gate_d (N := 20) rfl ?_); refine ag_fix (.string (nt a0 x16_1.toNat ByteArray.empty)) (ex_scell sT9 _ _ HCad47.out _ rfl rfl) rfl ?_)
                          | (go_at_call 44; clear k75; refine (i_strings_HasPrefix.calls (nt a0 x16_1.toNat ByteArray.empty) (nt a0 x9_0.toNat ByteArray.empty) true _ A71.out).mono ?_; rintro e_ w' ⟨rfl, rfl⟩))
                        (try simp only [Act.put, List.setIfInBounds_toArray, List.set_cons_zero, List.set_cons_succ])
                        go_ret
                        exact ⟨by first | rfl | (simp; done) | (simp [*]; done), rfl⟩
                      | false =>
                        rw [if_neg (show ¬ (false = true) by decide)] at H
                        have H' := hid H
                        clear H
                        have k78 := True.intro
                        go_wp2_with (first
                          | ((with_reducible refine gate_d (N := 19) rfl ?_); obtain ⟨ad47, c76, hv77, HCad47_⟩ := Sl.get (l := a0) (f := Value.string) SP0.out ByteArray.empty (i := x16_1) hc64.out hc63.out; have HCad47 := hid HCad47_; clear HCad47_; refine ag_fix (.pointer (some (ad47.add x16_1.toNat))) (ex_sat _ _ x16_1 _ _ hv77 hc64.out hc63.out us22 sT9 _ _ rfl rfl rfl) rfl ?_; clear hv77)
                          | ((with_reducible refine gate_d (N := 20) rfl ?_); refine ag_fix (.string (nt a0 x16_1.toNat ByteArray.empty)) (ex_scell sT9 _ _ HCad47.out _ rfl rfl) rfl ?_)
                          | (go_at_call 44; clear k78; refine (i_strings_HasPrefix.calls (nt a0 x16_1.toNat ByteArray.empty) (nt a0 x9_0.toNat ByteArray.empty) false _ A71.out).mono ?_; rintro e_ w' ⟨rfl, rfl⟩))
                        (try simp only [Act.put, List.setIfInBounds_toArray, List.set_cons_zero, List.set_cons_succ])
                        go_roundg k62
                        case measure => have := HK52.out; have := HK61.out; omega
                        case rel => exact ⟨wrap64 (x16_1 + 1), (by first | rfl | (simp; done) | (simp [*]; done)), H', (hid (by first | omega | (have := HK52.out; have := HK61.out; omega))), rfl⟩
                · rw [if_neg c64] at H
                  exact absurd H (by simp)
              · rw [if_neg c63] at H
                have c63b0 : decide (x16_1 < (a0.length : Int)) = false := decide_eq_false c63
                have hc63 := hid c63
                clear c63
                have H' := hid H
                clear H
                go_wp2_with fail
                (try simp only [Act.put, List.setIfInBounds_toArray, List.set_cons_zero, List.set_cons_succ])
                go_roundg k62
                case measure => have := HK52.out; have := HK61.out; omega
                case rel => exact ⟨wrap64 (x9_0 + 1), (by first | rfl | (simp; done) | (simp [*]; done)), H', (hid (by first | omega | (have := HK52.out; have := HK61.out; omega))), rfl⟩
        · rw [if_neg c55] at H
          exact absurd H (by simp)
      · rw [if_neg c54] at H
        have c54b0 : decide (x9_0 < (a0.length : Int)) = false := decide_eq_false c54
        have hc54 := hid c54
        clear c54
        obtain rfl := Option.some.inj H
        clear H
        go_wp2_with (first
          | ((with_reducible refine gate_d (N := 36) rfl ?_); obtain ⟨A79, c80, hv81⟩ := SP0.out.shape; rw [List.length_map] at hv81; refine ag_fix (.int .i64 (a0.length : Int)) (ex_len us22 _ _ _ _ hv81 _ rfl rfl) rfl ?_; clear hv81))
        (try simp only [Act.put, List.setIfInBounds_toArray, List.set_cons_zero, List.set_cons_succ])
        go_ret
        exact ⟨by first | rfl | (simp; done) | (simp [*]; done), rfl⟩
/-! i_lex_OneOf: function 12 -/
def i_lex_OneOf.l0 : Nat → ByteArray → Int → List ByteArray → Int → Int → Int → Int → Option (Int × Int × Int)
  | 0, _, _, _, _, _, _, _ => none
  | k + 1, a0, a1, a2, x25_0, yb85_0_0, yb85_1_0, yb85_2_0 => if x25_0 < (a2.length : Int) then (if 0 ≤ x25_0 then ((i_lex_Word.f k a0 a1 (nt a2 x25_0.toNat ByteArray.empty)).bind fun bt92 => (if bt92.2.2 = 0 then (some (bt92.1, x25_0, bt92.2.2)) else (if bt92.1 > yb85_0_0 then (i_lex_OneOf.l0 k a0 a1 a2 (wrap64 (x25_0 + 1)) bt92.1 bt92.2.1 bt92.2.2) else (if bt92.2.2 = 1 then (i_lex_OneOf.l0 k a0 a1 a2 (wrap64 (x25_0 + 1)) bt92.1 bt92.2.1 bt92.2.2) else (i_lex_OneOf.l0 k a0 a1 a2 (wrap64 (x25_0 + 1)) yb85_0_0 yb85_1_0 yb85_2_0))))) else (none)) else (some (yb85_0_0, yb85_1_0, yb85_2_0))
def i_lex_OneOf.f (k : Nat) (a0 : ByteArray) (a1 : Int) (a2 : List ByteArray) : Option (Int × Int × Int) := (i_lex_there.f a0 a1).bind fun t83 => (if t83 = true then ((i_lex_apart.f k a2).bind fun t84 => (if t84 = true then (i_lex_OneOf.l0 k a0 a1 a2 0 a1 0 2) else ((i_lex_wrong.f).bind fun bt96 => (some (bt96.1, bt96.2.1, bt96.2.2))))) else ((i_lex_wrong.f).bind fun bt99 => (some (bt99.1, bt99.2.1, bt99.2.2))))
set_option maxHeartbeats 40000000 in
set_option maxRecDepth 100000 in
theorem i_lex_OneOf.calls (k : Nat) (a0 : ByteArray) (a1 : Int) (v2_ : Value) (a2 : List ByteArray) (r1 : Int) (r2 : Int) (r3 : Int) (w : World) (hs2 : Sl w v2_ (a2.map Value.string)) (h : i_lex_OneOf.f k a0 a1 a2 = some (r1, r2, r3)) :
    Calls Try.prog 12 #[.string a0, .int .i64 a1, v2_] w fun e w' => e = .returned (.agg #[.int .i64 r1, .int .i64 r2, .int .i64 r3]) ∧ Below w.heap.size w w' := by
  have HL := hid (Below.refl w.heap.size w)
  have SP2 := hid hs2
  clear hs2
  have H : ((i_lex_there.f a0 a1).bind fun t83 => (if t83 = true then ((i_lex_apart.f k a2).bind fun t84 => (if t84 = true then (i_lex_OneOf.l0 k a0 a1 a2 0 a1 0 2) else ((i_lex_wrong.f).bind fun bt96 => (some (bt96.1, bt96.2.1, bt96.2.2))))) else ((i_lex_wrong.f).bind fun bt99 => (some (bt99.1, bt99.2.1, bt99.2.2))))) = some (r1, r2, r3) := h
  clear h
  replace H := Option.bind_eq_some_iff.mp H
  obtain ⟨t83, A102_, H⟩ := H
  replace H : (if t83 = true then ((i_lex_apart.f k a2).bind fun t84 => (if t84 = true then (i_lex_OneOf.l0 k a0 a1 a2 0 a1 0 2) else ((i_lex_wrong.f).bind fun bt96 => (some (bt96.1, bt96.2.1, bt96.2.2))))) else ((i_lex_wrong.f).bind fun bt99 => (some (bt99.1, bt99.2.1, bt99.2.2)))) = some (r1, r2, r3) := H
  have A102 := hid A102_
  clear A102_
  cases t83 with
  | true =>
    rw [if_pos rfl] at H
    replace H := Option.bind_eq_some_iff.mp H
    obtain ⟨t84, A104_, H⟩ := H
    replace H : (if t84 = true then (i_lex_OneOf.l0 k a0 a1 a2 0 a1 0 2) else ((i_lex_wrong.f).bind fun bt96 => (some (bt96.1, bt96.2.1, bt96.2.2)))) = some (r1, r2, r3) := H
    have A104 := hid A104_
    clear A104_
    cases t84 with
    | true =>
      rw [if_pos rfl] at H
      have H' := hid H
      clear H
      go_enter Try.func12, Try.ntmps12
      have k107 := True.intro
      have k108 := True.intro
      go_wp2_with (first
        | ((with_reducible refine gate_d (N := 6) rfl ?_); obtain ⟨gb82, hgb82⟩ : ∃ g_, w.heap.size = g_ := ⟨_, rfl⟩; refine ag_alloc aT26 gb82 hgb82 rfl rfl ?_; intro w106 hb_ hB_ hs_; have GEb82 : Hid (w.heap.size ≤ gb82) := hid (by have := HL.out.size; omega); replace HL := hid (HL.out.trans (hb_.mono GEb82.out)); have BKb82 := hid hB_; clear hb_ hB_ hs_ hgb82)
        | (go_at_call 27; clear k107; refine (i_lex_there.calls a0 a1 true _ A102.out).mono ?_; rintro e_ w' ⟨rfl, rfl⟩)
        | (go_at_call 31; clear k108; refine (i_lex_apart.calls k (v2_) a2 true _ (SP2.out.below HL.out) A104.out).mono ?_; rintro e_ w' ⟨rfl, rfl⟩)
        | ((with_reducible refine gate_d (N := 22) rfl ?_); refine ag_build (.agg #[.int .i64 a1, .int .i64 0, .int .i64 2]) _ rfl rfl ?_ ?_; (intro ww_; simp only [List.map_toArray, List.map_cons, List.map_nil]; kernel_rfl))
        | ((with_reducible refine gate_d (N := 7) rfl ?_); obtain ⟨gb85, hgb85⟩ : ∃ g_, w106.heap.size = g_ := ⟨_, rfl⟩; refine ag_alloc aT26 gb85 hgb85 rfl rfl ?_; intro w109 hb_ hB_ hs_; have GEb85 : Hid (w.heap.size ≤ gb85) := hid (by have := HL.out.size; omega); have NBb82_b85 : Hid (gb82 ≠ gb85) := hid (by have := BKb82.out.lt; omega); have NBb85_b82 : Hid (gb85 ≠ gb82) := hid (by have := NBb82_b85.out; omega); replace BKb82 := hid (BKb82.out.below hb_ (by rw [← hgb85]; exact BKb82.out.lt)); replace HL := hid (HL.out.trans (hb_.mono GEb85.out)); have BKb85 := hid hB_; clear hb_ hB_ hs_ hgb85)
        | ((with_reducible refine gate_s (t := 26) (p := 7) rfl ?_); refine ag_store aT26 gb85 0 #[.int .i64 0, .int .i64 0, .int .i64 0] #[.int .i64 a1, .int .i64 0, .int .i64 2] #[.int .i64 a1, .int .i64 0, .int .i64 2] BKb85.out rfl (by simp) (by intro v_ hv_; simp at hv_; rcases hv_ with rfl | rfl | rfl <;> first | rfl) rfl rfl _ _ rfl rfl rfl ?_; intro w110 ho_ hB_; replace BKb82 := hid (BKb82.out.off ho_ NBb82_b85.out); replace HL := hid (ho_.below HL.out GEb85.out); replace BKb85 := hid hB_; clear ho_ hB_)
        | ((with_reducible refine gate_d (N := 24) rfl ?_); obtain ⟨A111, c112, hv113⟩ := (SP2.out.below HL.out).shape; rw [List.length_map] at hv113; refine ag_fix (.int .i64 (a2.length : Int)) (ex_len us22 _ _ _ _ hv113 _ rfl rfl) rfl ?_; clear hv113))
      (try simp only [Act.put, List.setIfInBounds_toArray, List.set_cons_zero, List.set_cons_succ])
      go_loopg [25] k (fun kq v25 w' => ∃ (x25_0 : Int) (yb85_0_0 : Int) (yb85_1_0 : Int) (yb85_2_0 : Int), v25 = .int .i64 x25_0 ∧ Hid (i_lex_OneOf.l0 kq a0 a1 a2 x25_0 yb85_0_0 yb85_1_0 yb85_2_0 = some (r1, r2, r3)) ∧ Hid (kq ≤ k) ∧ Hid (Blk w' gb82 26 #[.int .i64 0, .int .i64 0, .int .i64 0]) ∧ Hid (Blk w' gb85 26 #[.int .i64 yb85_0_0, .int .i64 yb85_1_0, .int .i64 yb85_2_0]) ∧ Hid (Below w.heap.size w w'))
      case atStart => exact ⟨(0 : Int), a1, (0 : Int), (2 : Int), (by first | rfl | (simp; done) | (simp [*]; done)), H', (hid (by first | omega | (omega))), (hid (by exact BKb82.out)), (hid (by exact BKb85.out)), HL⟩
      case round =>
        clear H'
        clear HL BKb82 BKb85
        obtain ⟨x25_0, yb85_0_0, yb85_1_0, yb85_2_0, rfl, HA, HK114, BKb82, BKb85, HL⟩ := hrel
        cases gk with
        | zero => exact absurd HA.out (by simp [i_lex_OneOf.l0])
        | succ k115 =>
          have H := HA.out
          clear HA
          simp only [i_lex_OneOf.l0] at H
          by_cases c116 : x25_0 < (a2.length : Int)
          · rw [if_pos c116] at H
            have c116b0 : decide (x25_0 < (a2.length : Int)) = true := decide_eq_true c116
            have hc116 := hid c116
            clear c116
            by_cases c117 : 0 ≤ x25_0
            · rw [if_pos c117] at H
              have c117b0 : decide (0 ≤ x25_0) = true := decide_eq_true c117
              have hc117 := hid c117
              clear c117
              replace H := Option.bind_eq_some_iff.mp H
              obtain ⟨⟨t92, t93, t94⟩, A118_, H⟩ := H
              replace H : (if t94 = 0 then (some (t92, x25_0, t94)) else (if t92 > yb85_0_0 then (i_lex_OneOf.l0 k115 a0 a1 a2 (wrap64 (x25_0 + 1)) t92 t93 t94) else (if t94 = 1 then (i_lex_OneOf.l0 k115 a0 a1 a2 (wrap64 (x25_0 + 1)) t92 t93 t94) else (i_lex_OneOf.l0 k115 a0 a1 a2 (wrap64 (x25_0 + 1)) yb85_0_0 yb85_1_0 yb85_2_0)))) = some (r1, r2, r3) := H
              have A118 := hid A118_
              clear A118_
              by_cases c119 : t94 = 0
              · rw [if_pos c119] at H
                have c119b0 : (t94 == 0) = true := beq_iff_eq.mpr c119
                have c119b1 : (t94 != 0) = false := bne_eq_false_iff_eq.mpr c119
                have hc119 := hid c119
                clear c119
                simp only [Option.some.injEq, Prod.mk.injEq] at H
                obtain ⟨rfl, rfl, rfl⟩ := H
                have k122 := True.intro
                go_wp2_with (first
                  | ((with_reducible refine gate_d (N := 28) rfl ?_); obtain ⟨ad91, c120, hv121, HCad91_⟩ := Sl.get (l := a2) (f := Value.string) (SP2.out.below HL.out) ByteArray.empty (i := x25_0) hc117.out hc116.out; have HCad91 := hid HCad91_; clear HCad91_; refine ag_fix (.pointer (some (ad91.add x25_0.toNat))) (ex_sat _ _ x25_0 _ _ hv121 hc117.out hc116.out us22 sT9 _ _ rfl rfl rfl) rfl ?_; clear hv121)
                  | ((with_reducible refine gate_d (N := 29) rfl ?_); refine ag_fix (.string (nt a2 x25_0.toNat ByteArray.empty)) (ex_scell sT9 _ _ HCad91.out _ rfl rfl) rfl ?_)
                  | (go_at_call 10; clear k122; refine (i_lex_Word.calls k115 a0 a1 (nt a2 x25_0.toNat ByteArray.empty) t92 t93 t94 _ A118.out).mono ?_; rintro e_ w123 ⟨rfl, hb_⟩; replace BKb82 := hid (BKb82.out.below hb_ BKb82.out.lt); replace BKb85 := hid (BKb85.out.below hb_ BKb85.out.lt); replace HL := hid (HL.out.trans (hb_.mono HL.out.size)); clear hb_)
                  | ((with_reducible refine gate_d (N := 10) rfl ?_); obtain ⟨gb95, hgb95⟩ : ∃ g_, w123.heap.size = g_ := ⟨_, rfl⟩; refine ag_alloc aT26 gb95 hgb95 rfl rfl ?_; intro w124 hb_ hB_ hs_; have GEb95 : Hid (w.heap.size ≤ gb95) := hid (by have := HL.out.size; omega); have NBb82_b95 : Hid (gb82 ≠ gb95) := hid (by have := BKb82.out.lt; omega); have NBb95_b82 : Hid (gb95 ≠ gb82) := hid (by have := NBb82_b95.out; omega); replace BKb82 := hid (BKb82.out.below hb_ (by rw [← hgb95]; exact BKb82.out.lt)); have NBb85_b95 : Hid (gb85 ≠ gb95) := hid (by have := BKb85.out.lt; omega); have NBb95_b85 : Hid (gb95 ≠ gb85) := hid (by have := NBb85_b95.out; omega); replace BKb85 := hid (BKb85.out.below hb_ (by rw [← hgb95]; exact BKb85.out.lt)); replace HL := hid (HL.out.trans (hb_.mono GEb95.out)); have BKb95 := hid hB_; clear hb_ hB_ hs_ hgb95)
                  | ((with_reducible refine gate_s (t := 26) (p := 10) rfl ?_); refine ag_store aT26 gb95 0 #[.int .i64 0, .int .i64 0, .int .i64 0] #[.int .i64 t92, .int .i64 t93, .int .i64 t94] #[.int .i64 t92, .int .i64 t93, .int .i64 t94] BKb95.out rfl (by simp) (by intro v_ hv_; simp at hv_; rcases hv_ with rfl | rfl | rfl <;> first | rfl) rfl rfl _ _ rfl rfl rfl ?_; intro w125 ho_ hB_; replace BKb82 := hid (BKb82.out.off ho_ NBb82_b95.out); replace BKb85 := hid (BKb85.out.off ho_ NBb85_b95.out); replace HL := hid (ho_.below HL.out GEb95.out); replace BKb95 := hid hB_; clear ho_ hB_)
                  | ((with_reducible refine gate_d (N := 35) rfl ?_); refine ag_fix (.pointer (some ⟨gb95, 2, none⟩)) (ex_field 26 2 (.pointer (some ⟨gb95, 0, none⟩)) (.pointer (some ⟨gb95, 2, none⟩)) (fa26_2_0 gb95) _ rfl rfl) rfl ?_)
                  | ((with_reducible refine gate_d (N := 36) rfl ?_); refine ag_fix (.int .i64 t94) (ex_get sT24 gb95 (2) (.int .i64 t94) (#[.int .i64 t92, .int .i64 t93, .int .i64 t94]) BKb95.out rfl _ rfl rfl) rfl ?_)
                  | ((with_reducible refine gate_d (N := 39) rfl ?_); refine ag_fix (.pointer (some ⟨gb95, 1, none⟩)) (ex_field 26 1 (.pointer (some ⟨gb95, 0, none⟩)) (.pointer (some ⟨gb95, 1, none⟩)) (fa26_1_0 gb95) _ rfl rfl) rfl ?_)
                  | ((with_reducible refine gate_s (t := 3) (p := 39) rfl ?_); refine ag_set sT3 gb95 (1) (.int .i64 x25_0) #[.int .i64 t92, .int .i64 t93, .int .i64 t94] #[.int .i64 t92, .int .i64 x25_0, .int .i64 t94] BKb95.out (by simp) rfl rfl rfl rfl _ _ rfl rfl rfl ?_; intro w126 ho_ hB_; replace BKb82 := hid (BKb82.out.off ho_ NBb82_b95.out); replace BKb85 := hid (BKb85.out.off ho_ NBb85_b95.out); replace HL := hid (ho_.below HL.out GEb95.out); replace BKb95 := hid hB_; clear ho_ hB_)
                  | ((with_reducible refine gate_d (N := 40) rfl ?_); refine ag_fix (.agg #[.int .i64 t92, .int .i64 x25_0, .int .i64 t94]) (ex_load aT26 gb95 0 #[.int .i64 t92, .int .i64 x25_0, .int .i64 t94] #[.int .i64 t92, .int .i64 x25_0, .int .i64 t94] BKb95.out (by simp) rfl _ rfl rfl) rfl ?_)
                  | ((with_reducible refine gate_s (t := 26) (p := 6) rfl ?_); refine ag_store aT26 gb82 0 #[.int .i64 0, .int .i64 0, .int .i64 0] #[.int .i64 t92, .int .i64 x25_0, .int .i64 t94] #[.int .i64 t92, .int .i64 x25_0, .int .i64 t94] BKb82.out rfl (by simp) (by intro v_ hv_; simp at hv_; rcases hv_ with rfl | rfl | rfl <;> first | rfl) rfl rfl _ _ rfl rfl rfl ?_; intro w127 ho_ hB_; replace BKb85 := hid (BKb85.out.off ho_ NBb85_b82.out); replace BKb95 := hid (BKb95.out.off ho_ NBb95_b82.out); replace HL := hid (ho_.below HL.out GEb82.out); replace BKb82 := hid hB_; clear ho_ hB_))
                (try simp only [Act.put, List.setIfInBounds_toArray, List.set_cons_zero, List.set_cons_succ])
                refine bodyPost_ret (v := .agg #[.int .i64 t92, .int .i64 x25_0, .int .i64 t94]) (res_c aT26 rfl _ gb82 #[.int .i64 t92, .int .i64 x25_0, .int .i64 t94] BKb82.out rfl rfl) rfl ?_
                exact ⟨by first | rfl | (simp; done) | (simp [*]; done), HL.out⟩
              · rw [if_neg c119] at H
                have c119b0 : (t94 == 0) = false := beq_eq_false_iff_ne.mpr c119
                have c119b1 : (t94 != 0) = true := bne_iff_ne.mpr c119
                have hc119 := hid c119
                clear c119
                by_cases c128 : t92 > yb85_0_0
                · rw [if_pos c128] at H
                  have c128b0 : decide (yb85_0_0 < t92) = true := decide_eq_true c128
                  have hc128 := hid c128
                  clear c128
                  have H' := hid H
                  clear H
                  have k131 := True.intro
                  go_wp2_with (first
                    | ((with_reducible refine gate_d (N := 28) rfl ?_); obtain ⟨ad91, c129, hv130, HCad91_⟩ := Sl.get (l := a2) (f := Value.string) (SP2.out.below HL.out) ByteArray.empty (i := x25_0) hc117.out hc116.out; have HCad91 := hid HCad91_; clear HCad91_; refine ag_fix (.pointer (some (ad91.add x25_0.toNat))) (ex_sat _ _ x25_0 _ _ hv130 hc117.out hc116.out us22 sT9 _ _ rfl rfl rfl) rfl ?_; clear hv130)
                    | ((with_reducible refine gate_d (N := 29) rfl ?_); refine ag_fix (.string (nt a2 x25_0.toNat ByteArray.empty)) (ex_scell sT9 _ _ HCad91.out _ rfl rfl) rfl ?_)
                    | (go_at_call 10; clear k131; refine (i_lex_Word.calls k115 a0 a1 (nt a2 x25_0.toNat ByteArray.empty) t92 t93 t94 _ A118.out).mono ?_; rintro e_ w132 ⟨rfl, hb_⟩; replace BKb82 := hid (BKb82.out.below hb_ BKb82.out.lt); replace BKb85 := hid (BKb85.out.below hb_ BKb85.out.lt); replace HL := hid (HL.out.trans (hb_.mono HL.out.size)); clear hb_)
                    | ((with_reducible refine gate_d (N := 10) rfl ?_); obtain ⟨gb95, hgb95⟩ : ∃ g_, w132.heap.size = g_ := ⟨_, rfl⟩; refine ag_alloc aT26 gb95 hgb95 rfl rfl ?_; intro w133 hb_ hB_ hs_; have GEb95 : Hid (w.heap.size ≤ gb95) := hid (by have := HL.out.size; omega); have NBb82_b95 : Hid (gb82 ≠ gb95) := hid (by have := BKb82.out.lt; omega); have NBb95_b82 : Hid (gb95 ≠ gb82) := hid (by have := NBb82_b95.out; omega); replace BKb82 := hid (BKb82.out.below hb_ (by rw [← hgb95]; exact BKb82.out.lt)); have NBb85_b95 : Hid (gb85 ≠ gb95) := hid (by have := BKb85.out.lt; omega); have NBb95_b85 : Hid (gb95 ≠ gb85) := hid (by have := NBb85_b95.out; omega); replace BKb85 := hid (BKb85.out.below hb_ (by rw [← hgb95]; exact BKb85.out.lt)); replace HL := hid (HL.out.trans (hb_.mono GEb95.out)); have BKb95 := hid hB_; clear hb_ hB_ hs_ hgb95)
                    | ((with_reducible refine gate_s (t := 26) (p := 10) rfl ?_); refine ag_store aT26 gb95 0 #[.int .i64 0, .int .i64 0, .int .i64 0] #[.int .i64 t92, .int .i64 t93, .int .i64 t94] #[.int .i64 t92, .int .i64 t93, .int .i64 t94] BKb95.out rfl (by simp) (by intro v_ hv_; simp at hv_; rcases hv_ with rfl | rfl | rfl <;> first | rfl) rfl rfl _ _ rfl rfl rfl ?_; intro w134 ho_ hB_; replace BKb82 := hid (BKb82.out.off ho_ NBb82_b95.out); replace BKb85 := hid (BKb85.out.off ho_ NBb85_b95.out); replace HL := hid (ho_.below HL.out GEb95.out); replace BKb95 := hid hB_; clear ho_ hB_)
                    | ((with_reducible refine gate_d (N := 35) rfl ?_); refine ag_fix (.pointer (some ⟨gb95, 2, none⟩)) (ex_field 26 2 (.pointer (some ⟨gb95, 0, none⟩)) (.pointer (some ⟨gb95, 2, none⟩)) (fa26_2_0 gb95) _ rfl rfl) rfl ?_)
                    | ((with_reducible refine gate_d (N := 36) rfl ?_); refine ag_fix (.int .i64 t94) (ex_get sT24 gb95 (2) (.int .i64 t94) (#[.int .i64 t92, .int .i64 t93, .int .i64 t94]) BKb95.out rfl _ rfl rfl) rfl ?_)
                    | ((with_reducible refine gate_d (N := 42) rfl ?_); refine ag_fix (.pointer (some ⟨gb95, 0, none⟩)) (ex_field 26 0 (.pointer (some ⟨gb95, 0, none⟩)) (.pointer (some ⟨gb95, 0, none⟩)) (fa26_0_0 gb95) _ rfl rfl) rfl ?_)
                    | ((with_reducible refine gate_d (N := 43) rfl ?_); refine ag_fix (.int .i64 t92) (ex_get sT3 gb95 (0) (.int .i64 t92) (#[.int .i64 t92, .int .i64 t93, .int .i64 t94]) BKb95.out rfl _ rfl rfl) rfl ?_)
                    | ((with_reducible refine gate_d (N := 44) rfl ?_); refine ag_fix (.pointer (some ⟨gb85, 0, none⟩)) (ex_field 26 0 (.pointer (some ⟨gb85, 0, none⟩)) (.pointer (some ⟨gb85, 0, none⟩)) (fa26_0_0 gb85) _ rfl rfl) rfl ?_)
                    | ((with_reducible refine gate_d (N := 45) rfl ?_); refine ag_fix (.int .i64 yb85_0_0) (ex_get sT3 gb85 (0) (.int .i64 yb85_0_0) (#[.int .i64 yb85_0_0, .int .i64 yb85_1_0, .int .i64 yb85_2_0]) BKb85.out rfl _ rfl rfl) rfl ?_)
                    | ((with_reducible refine gate_d (N := 52) rfl ?_); refine ag_fix (.agg #[.int .i64 t92, .int .i64 t93, .int .i64 t94]) (ex_load aT26 gb95 0 #[.int .i64 t92, .int .i64 t93, .int .i64 t94] #[.int .i64 t92, .int .i64 t93, .int .i64 t94] BKb95.out (by simp) rfl _ rfl rfl) rfl ?_)
                    | ((with_reducible refine gate_s (t := 26) (p := 7) rfl ?_); refine ag_store aT26 gb85 0 #[.int .i64 yb85_0_0, .int .i64 yb85_1_0, .int .i64 yb85_2_0] #[.int .i64 t92, .int .i64 t93, .int .i64 t94] #[.int .i64 t92, .int .i64 t93, .int .i64 t94] BKb85.out rfl (by simp) (by intro v_ hv_; simp at hv_; rcases hv_ with rfl | rfl | rfl <;> first | rfl) rfl rfl _ _ rfl rfl rfl ?_; intro w135 ho_ hB_; replace BKb82 := hid (BKb82.out.off ho_ NBb82_b85.out); replace BKb95 := hid (BKb95.out.off ho_ NBb95_b85.out); replace HL := hid (ho_.below HL.out GEb85.out); replace BKb85 := hid hB_; clear ho_ hB_))
                  (try simp only [Act.put, List.setIfInBounds_toArray, List.set_cons_zero, List.set_cons_succ])
                  go_roundg k115
                  case measure => have := HK114.out; omega
                  case rel => exact ⟨wrap64 (x25_0 + 1), t92, t93, t94, (by first | rfl | (simp; done) | (simp [*]; done)), H', (hid (by first | omega | (have := HK114.out; omega))), (hid (by exact BKb82.out)), (hid (by exact BKb85.out)), HL⟩
                · rw [if_neg c128] at H
                  have c128b0 : decide (yb85_0_0 < t92) = false := decide_eq_false c128
                  have hc128 := hid c128
                  clear c128
                  by_cases c136 : t94 = 1
                  · rw [if_pos c136] at H
                    have c136b0 : (t94 == 1) = true := beq_iff_eq.mpr c136
                    have c136b1 : (t94 != 1) = false := bne_eq_false_iff_eq.mpr c136
                    have hc136 := hid c136
                    clear c136
                    have H' := hid H
                    clear H
                    have k139 := True.intro
                    go_wp2_with (first
                      | ((with_reducible refine gate_d (N := 28) rfl ?_); obtain ⟨ad91, c137, hv138, HCad91_⟩ := Sl.get (l := a2) (f := Value.string) (SP2.out.below HL.out) ByteArray.empty (i := x25_0) hc117.out hc116.out; have HCad91 := hid HCad91_; clear HCad91_; refine ag_fix (.pointer (some (ad91.add x25_0.toNat))) (ex_sat _ _ x25_0 _ _ hv138 hc117.out hc116.out us22 sT9 _ _ rfl rfl rfl) rfl ?_; clear hv138)
                      | ((with_reducible refine gate_d (N := 29) rfl ?_); refine ag_fix (.string (nt a2 x25_0.toNat ByteArray.empty)) (ex_scell sT9 _ _ HCad91.out _ rfl rfl) rfl ?_)
                      | (go_at_call 10; clear k139; refine (i_lex_Word.calls k115 a0 a1 (nt a2 x25_0.toNat ByteArray.empty) t92 t93 t94 _ A118.out).mono ?_; rintro e_ w140 ⟨rfl, hb_⟩; replace BKb82 := hid (BKb82.out.below hb_ BKb82.out.lt); replace BKb85 := hid (BKb85.out.below hb_ BKb85.out.lt); replace HL := hid (HL.out.trans (hb_.mono HL.out.size)); clear hb_)
                      | ((with_reducible refine gate_d (N := 10) rfl ?_); obtain ⟨gb95, hgb95⟩ : ∃ g_, w140.heap.size = g_ := ⟨_, rfl⟩; refine ag_alloc aT26 gb95 hgb95 rfl rfl ?_; intro w141 hb_ hB_ hs_; have GEb95 : Hid (w.heap.size ≤ gb95) := hid (by have := HL.out.size; omega); have NBb82_b95 : Hid (gb82 ≠ gb95) := hid (by have := BKb82.out.lt; omega); have NBb95_b82 : Hid (gb95 ≠ gb82) := hid (by have := NBb82_b95.out; omega); replace BKb82 := hid (BKb82.out.below hb_ (by rw [← hgb95]; exact BKb82.out.lt)); have NBb85_b95 : Hid (gb85 ≠ gb95) := hid (by have := BKb85.out.lt; omega); have NBb95_b85 : Hid (gb95 ≠ gb85) := hid (by have := NBb85_b95.out; omega); replace BKb85 := hid (BKb85.out.below hb_ (by rw [← hgb95]; exact BKb85.out.lt)); replace HL := hid (HL.out.trans (hb_.mono GEb95.out)); have BKb95 := hid hB_; clear hb_ hB_ hs_ hgb95)
                      | ((with_reducible refine gate_s (t := 26) (p := 10) rfl ?_); refine ag_store aT26 gb95 0 #[.int .i64 0, .int .i64 0, .int .i64 0] #[.int .i64 t92, .int .i64 t93, .int .i64 t94] #[.int .i64 t92, .int .i64 t93, .int .i64 t94] BKb95.out rfl (by simp) (by intro v_ hv_; simp at hv_; rcases hv_ with rfl | rfl | rfl <;> first | rfl) rfl rfl _ _ rfl rfl rfl ?_; intro w142 ho_ hB_; replace BKb82 := hid (BKb82.out.off ho_ NBb82_b95.out); replace BKb85 := hid (BKb85.out.off ho_ NBb85_b95.out); replace HL := hid (ho_.below HL.out GEb95.out); replace BKb95 := hid hB_; clear ho_ hB_)
                      | ((with_reducible refine gate_d (N := 35) rfl ?_); refine ag_fix (.pointer (some ⟨gb95, 2, none⟩)) (ex_field 26 2 (.pointer (some ⟨gb95, 0, none⟩)) (.pointer (some ⟨gb95, 2, none⟩)) (fa26_2_0 gb95) _ rfl rfl) rfl ?_)
                      | ((with_reducible refine gate_d (N := 36) rfl ?_); refine ag_fix (.int .i64 t94) (ex_get sT24 gb95 (2) (.int .i64 t94) (#[.int .i64 t92, .int .i64 t93, .int .i64 t94]) BKb95.out rfl _ rfl rfl) rfl ?_)
                      | ((with_reducible refine gate_d (N := 42) rfl ?_); refine ag_fix (.pointer (some ⟨gb95, 0, none⟩)) (ex_field 26 0 (.pointer (some ⟨gb95, 0, none⟩)) (.pointer (some ⟨gb95, 0, none⟩)) (fa26_0_0 gb95) _ rfl rfl) rfl ?_)
                      | ((with_reducible refine gate_d (N := 43) rfl ?_); refine ag_fix (.int .i64 t92) (ex_get sT3 gb95 (0) (.int .i64 t92) (#[.int .i64 t92, .int .i64 t93, .int .i64 t94]) BKb95.out rfl _ rfl rfl) rfl ?_)
                      | ((with_reducible refine gate_d (N := 44) rfl ?_); refine ag_fix (.pointer (some ⟨gb85, 0, none⟩)) (ex_field 26 0 (.pointer (some ⟨gb85, 0, none⟩)) (.pointer (some ⟨gb85, 0, none⟩)) (fa26_0_0 gb85) _ rfl rfl) rfl ?_)
                      | ((with_reducible refine gate_d (N := 45) rfl ?_); refine ag_fix (.int .i64 yb85_0_0) (ex_get sT3 gb85 (0) (.int .i64 yb85_0_0) (#[.int .i64 yb85_0_0, .int .i64 yb85_1_0, .int .i64 yb85_2_0]) BKb85.out rfl _ rfl rfl) rfl ?_)
                      | ((with_reducible refine gate_d (N := 48) rfl ?_); refine ag_fix (.pointer (some ⟨gb95, 2, none⟩)) (ex_field 26 2 (.pointer (some ⟨gb95, 0, none⟩)) (.pointer (some ⟨gb95, 2, none⟩)) (fa26_2_0 gb95) _ rfl rfl) rfl ?_)
                      | ((with_reducible refine gate_d (N := 49) rfl ?_); refine ag_fix (.int .i64 t94) (ex_get sT24 gb95 (2) (.int .i64 t94) (#[.int .i64 t92, .int .i64 t93, .int .i64 t94]) BKb95.out rfl _ rfl rfl) rfl ?_)
                      | ((with_reducible refine gate_d (N := 52) rfl ?_); refine ag_fix (.agg #[.int .i64 t92, .int .i64 t93, .int .i64 t94]) (ex_load aT26 gb95 0 #[.int .i64 t92, .int .i64 t93, .int .i64 t94] #[.int .i64 t92, .int .i64 t93, .int .i64 t94] BKb95.out (by simp) rfl _ rfl rfl) rfl ?_)
                      | ((with_reducible refine gate_s (t := 26) (p := 7) rfl ?_); refine ag_store aT26 gb85 0 #[.int .i64 yb85_0_0, .int .i64 yb85_1_0, .int .i64 yb85_2_0] #[.int .i64 t92, .int .i64 t93, .int .i64 t94] #[.int .i64 t92, .int .i64 t93, .int .i64 t94] BKb85.out rfl (by simp) (by intro v_ hv_; simp at hv_; rcases hv_ with rfl | rfl | rfl <;> first | rfl) rfl rfl _ _ rfl rfl rfl ?_; intro w143 ho_ hB_; replace BKb82 := hid (BKb82.out.off ho_ NBb82_b85.out); replace BKb95 := hid (BKb95.out.off ho_ NBb95_b85.out); replace HL := hid (ho_.below HL.out GEb85.out); replace BKb85 := hid hB_; clear ho_ hB_))
                    (try simp only [Act.put, List.setIfInBounds_toArray, List.set_cons_zero, List.set_cons_succ])
                    go_roundg k115
                    case measure => have := HK114.out; omega
                    case rel => exact ⟨wrap64 (x25_0 + 1), t92, t93, t94, (by first | rfl | (simp; done) | (simp [*]; done)), H', (hid (by first | omega | (have := HK114.out; omega))), (hid (by exact BKb82.out)), (hid (by exact BKb85.out)), HL⟩
                  · rw [if_neg c136] at H
                    have c136b0 : (t94 == 1) = false := beq_eq_false_iff_ne.mpr c136
                    have c136b1 : (t94 != 1) = true := bne_iff_ne.mpr c136
                    have hc136 := hid c136
                    clear c136
                    have H' := hid H
                    clear H
                    have k146 := True.intro
                    go_wp2_with (first
                      | ((with_reducible refine gate_d (N := 28) rfl ?_); obtain ⟨ad91, c144, hv145, HCad91_⟩ := Sl.get (l := a2) (f := Value.string) (SP2.out.below HL.out) ByteArray.empty (i := x25_0) hc117.out hc116.out; have HCad91 := hid HCad91_; clear HCad91_; refine ag_fix (.pointer (some (ad91.add x25_0.toNat))) (ex_sat _ _ x25_0 _ _ hv145 hc117.out hc116.out us22 sT9 _ _ rfl rfl rfl) rfl ?_; clear hv145)
                      | ((with_reducible refine gate_d (N := 29) rfl ?_); refine ag_fix (.string (nt a2 x25_0.toNat ByteArray.empty)) (ex_scell sT9 _ _ HCad91.out _ rfl rfl) rfl ?_)
                      | (go_at_call 10; clear k146; refine (i_lex_Word.calls k115 a0 a1 (nt a2 x25_0.toNat ByteArray.empty) t92 t93 t94 _ A118.out).mono ?_; rintro e_ w147 ⟨rfl, hb_⟩; replace BKb82 := hid (BKb82.out.below hb_ BKb82.out.lt); replace BKb85 := hid (BKb85.out.below hb_ BKb85.out.lt); replace HL := hid (HL.out.trans (hb_.mono HL.out.size)); clear hb_)
                      | ((with_reducible refine gate_d (N := 10) rfl ?_); obtain ⟨gb95, hgb95⟩ : ∃ g_, w147.heap.size = g_ := ⟨_, rfl⟩; refine ag_alloc aT26 gb95 hgb95 rfl rfl ?_; intro w148 hb_ hB_ hs_; have GEb95 : Hid (w.heap.size ≤ gb95) := hid (by have := HL.out.size; omega); have NBb82_b95 : Hid (gb82 ≠ gb95) := hid (by have := BKb82.out.lt; omega); have NBb95_b82 : Hid (gb95 ≠ gb82) := hid (by have := NBb82_b95.out; omega); replace BKb82 := hid (BKb82.out.below hb_ (by rw [← hgb95]; exact BKb82.out.lt)); have NBb85_b95 : Hid (gb85 ≠ gb95) := hid (by have := BKb85.out.lt; omega); have NBb95_b85 : Hid (gb95 ≠ gb85) := hid (by have := NBb85_b95.out; omega); replace BKb85 := hid (BKb85.out.below hb_ (by rw [← hgb95]; exact BKb85.out.lt)); replace HL := hid (HL.out.trans (hb_.mono GEb95.out)); have BKb95 := hid hB_; clear hb_ hB_ hs_ hgb95)
                      | ((with_reducible refine gate_s (t := 26) (p := 10) rfl ?_); refine ag_store aT26 gb95 0 #[.int .i64 0, .int .i64 0, .int .i64 0] #[.int .i64 t92, .int .i64 t93, .int .i64 t94] #[.int .i64 t92, .int .i64 t93, .int .i64 t94] BKb95.out rfl (by simp) (by intro v_ hv_; simp at hv_; rcases hv_ with rfl | rfl | rfl <;> first | rfl) rfl rfl _ _ rfl rfl rfl ?_; intro w149 ho_ hB_; replace BKb82 := hid (BKb82.out.off ho_ NBb82_b95.out); replace BKb85 := hid (BKb85.out.off ho_ NBb85_b95.out); replace HL := hid (ho_.below HL.out GEb95.out); replace BKb95 := hid hB_; clear ho_ hB_)
                      | ((with_reducible refine gate_d (N := 35) rfl ?_); refine ag_fix (.pointer (some ⟨gb95, 2, none⟩)) (ex_field 26 2 (.pointer (some ⟨gb95, 0, none⟩)) (.pointer (some ⟨gb95, 2, none⟩)) (fa26_2_0 gb95) _ rfl rfl) rfl ?_)
                      | ((with_reducible refine gate_d (N := 36) rfl ?_); refine ag_fix (.int .i64 t94) (ex_get sT24 gb95 (2) (.int .i64 t94) (#[.int .i64 t92, .int .i64 t93, .int .i64 t94]) BKb95.out rfl _ rfl rfl) rfl ?_)
                      | ((with_reducible refine gate_d (N := 42) rfl ?_); refine ag_fix (.pointer (some ⟨gb95, 0, none⟩)) (ex_field 26 0 (.pointer (some ⟨gb95, 0, none⟩)) (.pointer (some ⟨gb95, 0, none⟩)) (fa26_0_0 gb95) _ rfl rfl) rfl ?_)
                      | ((with_reducible refine gate_d (N := 43) rfl ?_); refine ag_fix (.int .i64 t92) (ex_get sT3 gb95 (0) (.int .i64 t92) (#[.int .i64 t92, .int .i64 t93, .int .i64 t94]) BKb95.out rfl _ rfl rfl) rfl ?_)
                      | ((with_reducible refine gate_d (N := 44) rfl ?_); refine ag_fix (.pointer (some ⟨gb85, 0, none⟩)) (ex_field 26 0 (.pointer (some ⟨gb85, 0, none⟩)) (.pointer (some ⟨gb85, 0, none⟩)) (fa26_0_0 gb85) _ rfl rfl) rfl ?_)
                      | ((with_reducible refine gate_d (N := 45) rfl ?_); refine ag_fix (.int .i64 yb85_0_0) (ex_get sT3 gb85 (0) (.int .i64 yb85_0_0) (#[.int .i64 yb85_0_0, .int .i64 yb85_1_0, .int .i64 yb85_2_0]) BKb85.out rfl _ rfl rfl) rfl ?_)
                      | ((with_reducible refine gate_d (N := 48) rfl ?_); refine ag_fix (.pointer (some ⟨gb95, 2, none⟩)) (ex_field 26 2 (.pointer (some ⟨gb95, 0, none⟩)) (.pointer (some ⟨gb95, 2, none⟩)) (fa26_2_0 gb95) _ rfl rfl) rfl ?_)
                      | ((with_reducible refine gate_d (N := 49) rfl ?_); refine ag_fix (.int .i64 t94) (ex_get sT24 gb95 (2) (.int .i64 t94) (#[.int .i64 t92, .int .i64 t93, .int .i64 t94]) BKb95.out rfl _ rfl rfl) rfl ?_))
                    (try simp only [Act.put, List.setIfInBounds_toArray, List.set_cons_zero, List.set_cons_succ])
                    go_roundg k115
                    case measure => have := HK114.out; omega
                    case rel => exact ⟨wrap64 (x25_0 + 1), yb85_0_0, yb85_1_0, yb85_2_0, (by first | rfl | (simp; done) | (simp [*]; done)), H', (hid (by first | omega | (have := HK114.out; omega))), (hid (by exact BKb82.out)), (hid (by exact BKb85.out)), HL⟩
            · rw [if_neg c117] at H
              exact absurd H (by simp)
          · rw [if_neg c116] at H
            have c116b0 : decide (x25_0 < (a2.length : Int)) = false := decide_eq_false c116
            have hc116 := hid c116
            clear c116
            simp only [Option.some.injEq, Prod.mk.injEq] at H
            obtain ⟨rfl, rfl, rfl⟩ := H
            go_wp2_with (first
              | ((with_reducible refine gate_d (N := 54) rfl ?_); refine ag_fix (.agg #[.int .i64 yb85_0_0, .int .i64 yb85_1_0, .int .i64 yb85_2_0]) (ex_load aT26 gb85 0 #[.int .i64 yb85_0_0, .int .i64 yb85_1_0, .int .i64 yb85_2_0] #[.int .i64 yb85_0_0, .int .i64 yb85_1_0, .int .i64 yb85_2_0] BKb85.out (by simp) rfl _ rfl rfl) rfl ?_)
              | ((with_reducible refine gate_s (t := 26) (p := 6) rfl ?_); refine ag_store aT26 gb82 0 #[.int .i64 0, .int .i64 0, .int .i64 0] #[.int .i64 yb85_0_0, .int .i64 yb85_1_0, .int .i64 yb85_2_0] #[.int .i64 yb85_0_0, .int .i64 yb85_1_0, .int .i64 yb85_2_0] BKb82.out rfl (by simp) (by intro v_ hv_; simp at hv_; rcases hv_ with rfl | rfl | rfl <;> first | rfl) rfl rfl _ _ rfl rfl rfl ?_; intro w150 ho_ hB_; replace BKb85 := hid (BKb85.out.off ho_ NBb85_b82.out); replace HL := hid (ho_.below HL.out GEb82.out); replace BKb82 := hid hB_; clear ho_ hB_))
            (try simp only [Act.put, List.setIfInBounds_toArray, List.set_cons_zero, List.set_cons_succ])
            refine bodyPost_ret (v := .agg #[.int .i64 yb85_0_0, .int .i64 yb85_1_0, .int .i64 yb85_2_0]) (res_c aT26 rfl _ gb82 #[.int .i64 yb85_0_0, .int .i64 yb85_1_0, .int .i64 yb85_2_0] BKb82.out rfl rfl) rfl ?_
            exact ⟨by first | rfl | (simp; done) | (simp [*]; done), HL.out⟩
    | false =>
      rw [if_neg (show ¬ (false = true) by decide)] at H
      replace H := Option.bind_eq_some_iff.mp H
      obtain ⟨⟨t96, t97, t98⟩, A151_, H⟩ := H
      replace H : (some (t96, t97, t98)) = some (r1, r2, r3) := H
      have A151 := hid A151_
      clear A151_
      simp only [Option.some.injEq, Prod.mk.injEq] at H
      obtain ⟨rfl, rfl, rfl⟩ := H
      go_enter Try.func12, Try.ntmps12
      have k153 := True.intro
      have k154 := True.intro
      have k155 := True.intro
      go_wp2_with (first
        | ((with_reducible refine gate_d (N := 6) rfl ?_); obtain ⟨gb82, hgb82⟩ : ∃ g_, w.heap.size = g_ := ⟨_, rfl⟩; refine ag_alloc aT26 gb82 hgb82 rfl rfl ?_; intro w152 hb_ hB_ hs_; have GEb82 : Hid (w.heap.size ≤ gb82) := hid (by have := HL.out.size; omega); replace HL := hid (HL.out.trans (hb_.mono GEb82.out)); have BKb82 := hid hB_; clear hb_ hB_ hs_ hgb82)
        | (go_at_call 27; clear k153; refine (i_lex_there.calls a0 a1 true _ A102.out).mono ?_; rintro e_ w' ⟨rfl, rfl⟩)
        | (go_at_call 31; clear k154; refine (i_lex_apart.calls k (v2_) a2 false _ (SP2.out.below HL.out) A104.out).mono ?_; rintro e_ w' ⟨rfl, rfl⟩)
        | (go_at_call 28; clear k155; refine (i_lex_wrong.calls t96 t97 t98 _ A151.out).mono ?_; rintro e_ w156 ⟨rfl, hb_⟩; replace BKb82 := hid (BKb82.out.below hb_ BKb82.out.lt); replace HL := hid (HL.out.trans (hb_.mono HL.out.size)); clear hb_)
        | ((with_reducible refine gate_s (t := 26) (p := 6) rfl ?_); refine ag_store aT26 gb82 0 #[.int .i64 0, .int .i64 0, .int .i64 0] #[.int .i64 t96, .int .i64 t97, .int .i64 t98] #[.int .i64 t96, .int .i64 t97, .int .i64 t98] BKb82.out rfl (by simp) (by intro v_ hv_; simp at hv_; rcases hv_ with rfl | rfl | rfl <;> first | rfl) rfl rfl _ _ rfl rfl rfl ?_; intro w157 ho_ hB_; replace HL := hid (ho_.below HL.out GEb82.out); replace BKb82 := hid hB_; clear ho_ hB_))
      (try simp only [Act.put, List.setIfInBounds_toArray, List.set_cons_zero, List.set_cons_succ])
      refine bodyPost_ret (v := .agg #[.int .i64 t96, .int .i64 t97, .int .i64 t98]) (res_c aT26 rfl _ gb82 #[.int .i64 t96, .int .i64 t97, .int .i64 t98] BKb82.out rfl rfl) rfl ?_
      exact ⟨by first | rfl | (simp; done) | (simp [*]; done), HL.out⟩
  | false =>
    rw [if_neg (show ¬ (false = true) by decide)] at H
    replace H := Option.bind_eq_some_iff.mp H
    obtain ⟨⟨t99, t100, t101⟩, A158_, H⟩ := H
    replace H : (some (t99, t100, t101)) = some (r1, r2, r3) := H
    have A158 := hid A158_
    clear A158_
    simp only [Option.some.injEq, Prod.mk.injEq] at H
    obtain ⟨rfl, rfl, rfl⟩ := H
    go_enter Try.func12, Try.ntmps12
    have k160 := True.intro
    have k161 := True.intro
    go_wp2_with (first
      | ((with_reducible refine gate_d (N := 6) rfl ?_); obtain ⟨gb82, hgb82⟩ : ∃ g_, w.heap.size = g_ := ⟨_, rfl⟩; refine ag_alloc aT26 gb82 hgb82 rfl rfl ?_; intro w159 hb_ hB_ hs_; have GEb82 : Hid (w.heap.size ≤ gb82) := hid (by have := HL.out.size; omega); replace HL := hid (HL.out.trans (hb_.mono GEb82.out)); have BKb82 := hid hB_; clear hb_ hB_ hs_ hgb82)
      | (go_at_call 27; clear k160; refine (i_lex_there.calls a0 a1 false _ A102.out).mono ?_; rintro e_ w' ⟨rfl, rfl⟩)
      | (go_at_call 28; clear k161; refine (i_lex_wrong.calls t99 t100 t101 _ A158.out).mono ?_; rintro e_ w162 ⟨rfl, hb_⟩; replace BKb82 := hid (BKb82.out.below hb_ BKb82.out.lt); replace HL := hid (HL.out.trans (hb_.mono HL.out.size)); clear hb_)
      | ((with_reducible refine gate_s (t := 26) (p := 6) rfl ?_); refine ag_store aT26 gb82 0 #[.int .i64 0, .int .i64 0, .int .i64 0] #[.int .i64 t99, .int .i64 t100, .int .i64 t101] #[.int .i64 t99, .int .i64 t100, .int .i64 t101] BKb82.out rfl (by simp) (by intro v_ hv_; simp at hv_; rcases hv_ with rfl | rfl | rfl <;> first | rfl) rfl rfl _ _ rfl rfl rfl ?_; intro w163 ho_ hB_; replace HL := hid (ho_.below HL.out GEb82.out); replace BKb82 := hid hB_; clear ho_ hB_))
    (try simp only [Act.put, List.setIfInBounds_toArray, List.set_cons_zero, List.set_cons_succ])
    refine bodyPost_ret (v := .agg #[.int .i64 t99, .int .i64 t100, .int .i64 t101]) (res_c aT26 rfl _ gb82 #[.int .i64 t99, .int .i64 t100, .int .i64 t101] BKb82.out rfl rfl) rfl ?_
    exact ⟨by first | rfl | (simp; done) | (simp [*]; done), HL.out⟩
/-! i_alfilref14_There: function 29 -/
def i_alfilref14_There.f (a0 : ByteArray) (a1 : Int) : Option (Bool) := if a1 ≥ 0 then (some (decide (a1 ≤ (a0.size : Int)))) else (some false)
set_option maxHeartbeats 40000000 in
set_option maxRecDepth 100000 in
theorem i_alfilref14_There.calls (a0 : ByteArray) (a1 : Int) (r1 : Bool) (w : World) (h : i_alfilref14_There.f a0 a1 = some r1) :
    Calls Try.prog 29 #[.string a0, .int .i64 a1] w fun e w' => e = .returned (.bool r1) ∧ w = w' := by
  have H : (if a1 ≥ 0 then (some (decide (a1 ≤ (a0.size : Int)))) else (some false)) = some r1 := h
  clear h
  by_cases c164 : a1 ≥ 0
  · rw [if_pos c164] at H
    have c164b0 : decide (0 ≤ a1) = true := decide_eq_true c164
    have hc164 := hid c164
    clear c164
    obtain rfl := Option.some.inj H
    clear H
    go_enter Try.func29, Try.ntmps29
    go_wp2_with fail
    (try simp only [Act.put, List.setIfInBounds_toArray, List.set_cons_zero, List.set_cons_succ])
    go_ret
    exact ⟨by first | rfl | (simp; done) | (simp [*]; done), rfl⟩
  · rw [if_neg c164] at H
    have c164b0 : decide (0 ≤ a1) = false := decide_eq_false c164
    have hc164 := hid c164
    clear c164
    obtain rfl := Option.some.inj H
    clear H
    go_enter Try.func29, Try.ntmps29
    go_wp2_with fail
    (try simp only [Act.put, List.setIfInBounds_toArray, List.set_cons_zero, List.set_cons_succ])
    go_ret
    exact ⟨by first | rfl | (simp; done) | (simp [*]; done), rfl⟩
/-! i_alfilref14_fits: function 30 -/
def i_alfilref14_fits.l0 : Nat → ByteArray → Int → ByteArray → Int → Option (Int)
  | 0, _, _, _, _ => none
  | k + 1, a0, a1, a2, x7_0 => if x7_0 < (a2.size : Int) then (if (wrap64 (a1 + x7_0)) < (a0.size : Int) then (if 0 ≤ (wrap64 (a1 + x7_0)) then (if 0 ≤ x7_0 then (if (bt a0 (wrap64 (a1 + x7_0)).toNat) = (bt a2 x7_0.toNat) then (i_alfilref14_fits.l0 k a0 a1 a2 (wrap64 (x7_0 + 1))) else (some x7_0)) else (none)) else (none)) else (some x7_0)) else (some x7_0)
def i_alfilref14_fits.f (k : Nat) (a0 : ByteArray) (a1 : Int) (a2 : ByteArray) : Option (Int) := i_alfilref14_fits.l0 k a0 a1 a2 0
set_option maxHeartbeats 40000000 in
set_option maxRecDepth 100000 in
theorem i_alfilref14_fits.calls (k : Nat) (a0 : ByteArray) (a1 : Int) (a2 : ByteArray) (r1 : Int) (w : World) (h : i_alfilref14_fits.f k a0 a1 a2 = some r1) :
    Calls Try.prog 30 #[.string a0, .int .i64 a1, .string a2] w fun e w' => e = .returned (.int .i64 r1) ∧ Below w.heap.size w w' := by
  have HL := hid (Below.refl w.heap.size w)
  have H : (i_alfilref14_fits.l0 k a0 a1 a2 0) = some r1 := h
  clear h
  have H' := hid H
  clear H
  go_enter Try.func30, Try.ntmps30
  go_wp2_with fail
  (try simp only [Act.put, List.setIfInBounds_toArray, List.set_cons_zero, List.set_cons_succ])
  go_loopg [7] k (fun kq v7 w' => ∃ (x7_0 : Int), v7 = .int .i64 x7_0 ∧ Hid (i_alfilref14_fits.l0 kq a0 a1 a2 x7_0 = some r1) ∧ Hid (kq ≤ k) ∧ Hid (Below w.heap.size w w'))
  case atStart => exact ⟨(0 : Int), (by first | rfl | (simp; done) | (simp [*]; done)), H', (hid (by first | omega | (omega))), HL⟩
  case round =>
    clear H'
    clear HL
    obtain ⟨x7_0, rfl, HA, HK165, HL⟩ := hrel
    cases gk with
    | zero => exact absurd HA.out (by simp [i_alfilref14_fits.l0])
    | succ k166 =>
      have H := HA.out
      clear HA
      simp only [i_alfilref14_fits.l0] at H
      by_cases c167 : x7_0 < (a2.size : Int)
      · rw [if_pos c167] at H
        have c167b0 : decide (x7_0 < (a2.size : Int)) = true := decide_eq_true c167
        have hc167 := hid c167
        clear c167
        by_cases c168 : (wrap64 (a1 + x7_0)) < (a0.size : Int)
        · rw [if_pos c168] at H
          have c168b0 : decide ((wrap64 (a1 + x7_0)) < (a0.size : Int)) = true := decide_eq_true c168
          have hc168 := hid c168
          clear c168
          by_cases c169 : 0 ≤ (wrap64 (a1 + x7_0))
          · rw [if_pos c169] at H
            have c169b0 : decide (0 ≤ (wrap64 (a1 + x7_0))) = true := decide_eq_true c169
            have hc169 := hid c169
            clear c169
            by_cases c170 : 0 ≤ x7_0
            · rw [if_pos c170] at H
              have c170b0 : decide (0 ≤ x7_0) = true := decide_eq_true c170
              have hc170 := hid c170
              clear c170
              by_cases c171 : (bt a0 (wrap64 (a1 + x7_0)).toNat) = (bt a2 x7_0.toNat)
              · rw [if_pos c171] at H
                have c171b0 : ((bt a0 (wrap64 (a1 + x7_0)).toNat) == (bt a2 x7_0.toNat)) = true := beq_iff_eq.mpr c171
                have c171b1 : ((bt a0 (wrap64 (a1 + x7_0)).toNat) != (bt a2 x7_0.toNat)) = false := bne_eq_false_iff_eq.mpr c171
                have hc171 := hid c171
                clear c171
                have H' := hid H
                clear H
                go_wp2_with fail
                (try simp only [Act.put, List.setIfInBounds_toArray, List.set_cons_zero, List.set_cons_succ])
                have WR64 := i64_w
                have WR32 := i32_w
                refine up_regionW (by kernel_rfl) (by kernel_rfl) ?_
                refine q_do (.int .i64 x7_0) (fun w'_ hc_ => ex_mv (.tmp 7) (.inl rfl) _ rfl) rfl rfl ?_
                intro ts_ ht_; simp only [List.setIfInBounds_toArray, List.set_cons_zero, List.set_cons_succ] at ht_; subst ht_
                refine q_do (.string a2) (fun w'_ hc_ => ex_mv (.tmp 2) (.inl rfl) _ rfl) rfl rfl ?_
                intro ts_ ht_; simp only [List.setIfInBounds_toArray, List.set_cons_zero, List.set_cons_succ] at ht_; subst ht_
                refine q_do (.int .i64 (a2.size : Int)) (fun w'_ hc_ => by go_simp) rfl rfl ?_
                intro ts_ ht_; simp only [List.setIfInBounds_toArray, List.set_cons_zero, List.set_cons_succ] at ht_; subst ht_
                refine q_do (.bool true) (fun w'_ hc_ => by go_simp) rfl rfl ?_
                intro ts_ ht_; simp only [List.setIfInBounds_toArray, List.set_cons_zero, List.set_cons_succ] at ht_; subst ht_
                refine q_do (.bool true) (fun w'_ hc_ => ex_mv (.tmp 11) (.inl rfl) _ rfl) rfl rfl ?_
                intro ts_ ht_; simp only [List.setIfInBounds_toArray, List.set_cons_zero, List.set_cons_succ] at ht_; subst ht_
                refine q_do (.int .i64 a1) (fun w'_ hc_ => ex_mv (.tmp 1) (.inl rfl) _ rfl) rfl rfl ?_
                intro ts_ ht_; simp only [List.setIfInBounds_toArray, List.set_cons_zero, List.set_cons_succ] at ht_; subst ht_
                refine q_do (.int .i64 x7_0) (fun w'_ hc_ => ex_mv (.tmp 7) (.inl rfl) _ rfl) rfl rfl ?_
                intro ts_ ht_; simp only [List.setIfInBounds_toArray, List.set_cons_zero, List.set_cons_succ] at ht_; subst ht_
                refine q_do (.int .i64 (wrap64 (a1 + x7_0))) (fun w'_ hc_ => by go_simp) rfl rfl ?_
                intro ts_ ht_; simp only [List.setIfInBounds_toArray, List.set_cons_zero, List.set_cons_succ] at ht_; subst ht_
                refine q_do (.string a0) (fun w'_ hc_ => ex_mv (.tmp 0) (.inl rfl) _ rfl) rfl rfl ?_
                intro ts_ ht_; simp only [List.setIfInBounds_toArray, List.set_cons_zero, List.set_cons_succ] at ht_; subst ht_
                refine q_do (.int .i64 (a0.size : Int)) (fun w'_ hc_ => by go_simp) rfl rfl ?_
                intro ts_ ht_; simp only [List.setIfInBounds_toArray, List.set_cons_zero, List.set_cons_succ] at ht_; subst ht_
                refine q_do (.bool true) (fun w'_ hc_ => by go_simp) rfl rfl ?_
                intro ts_ ht_; simp only [List.setIfInBounds_toArray, List.set_cons_zero, List.set_cons_succ] at ht_; subst ht_
                refine q_do (.bool true) (fun w'_ hc_ => by go_simp) rfl rfl ?_
                intro ts_ ht_; simp only [List.setIfInBounds_toArray, List.set_cons_zero, List.set_cons_succ] at ht_; subst ht_
                refine q_do (.bool true) (fun w'_ hc_ => ex_mv (.tmp 19) (.inl rfl) _ rfl) rfl rfl ?_
                intro ts_ ht_; simp only [List.setIfInBounds_toArray, List.set_cons_zero, List.set_cons_succ] at ht_; subst ht_
                refine q_do (.string a0) (fun w'_ hc_ => ex_mv (.tmp 0) (.inl rfl) _ rfl) rfl rfl ?_
                intro ts_ ht_; simp only [List.setIfInBounds_toArray, List.set_cons_zero, List.set_cons_succ] at ht_; subst ht_
                refine q_do (.int .i64 a1) (fun w'_ hc_ => ex_mv (.tmp 1) (.inl rfl) _ rfl) rfl rfl ?_
                intro ts_ ht_; simp only [List.setIfInBounds_toArray, List.set_cons_zero, List.set_cons_succ] at ht_; subst ht_
                refine q_do (.int .i64 x7_0) (fun w'_ hc_ => ex_mv (.tmp 7) (.inl rfl) _ rfl) rfl rfl ?_
                intro ts_ ht_; simp only [List.setIfInBounds_toArray, List.set_cons_zero, List.set_cons_succ] at ht_; subst ht_
                refine q_do (.int .i64 (wrap64 (a1 + x7_0))) (fun w'_ hc_ => by go_simp) rfl rfl ?_
                intro ts_ ht_; simp only [List.setIfInBounds_toArray, List.set_cons_zero, List.set_cons_succ] at ht_; subst ht_
                refine q_do (.int .u8 (bt a0 (wrap64 (a1 + x7_0)).toNat)) (fun w'_ hc_ => by obtain ⟨n_, hn_⟩ := hc_; exact ex_ix 9 (.string a0) (.int .i64 (wrap64 (a1 + x7_0))) (.int .u8 (bt a0 (wrap64 (a1 + x7_0)).toNat)) (ix_txt a0 (wrap64 (a1 + x7_0)) hc169.out hc168.out) _ _ rfl rfl rfl) rfl rfl ?_
                intro ts_ ht_; simp only [List.setIfInBounds_toArray, List.set_cons_zero, List.set_cons_succ] at ht_; subst ht_
                refine q_do (.string a2) (fun w'_ hc_ => ex_mv (.tmp 2) (.inl rfl) _ rfl) rfl rfl ?_
                intro ts_ ht_; simp only [List.setIfInBounds_toArray, List.set_cons_zero, List.set_cons_succ] at ht_; subst ht_
                refine q_do (.int .i64 x7_0) (fun w'_ hc_ => ex_mv (.tmp 7) (.inl rfl) _ rfl) rfl rfl ?_
                intro ts_ ht_; simp only [List.setIfInBounds_toArray, List.set_cons_zero, List.set_cons_succ] at ht_; subst ht_
                refine q_do (.int .u8 (bt a2 x7_0.toNat)) (fun w'_ hc_ => by obtain ⟨n_, hn_⟩ := hc_; exact ex_ix 9 (.string a2) (.int .i64 x7_0) (.int .u8 (bt a2 x7_0.toNat)) (ix_txt a2 x7_0 hc170.out hc167.out) _ _ rfl rfl rfl) rfl rfl ?_
                intro ts_ ht_; simp only [List.setIfInBounds_toArray, List.set_cons_zero, List.set_cons_succ] at ht_; subst ht_
                refine q_do (.bool true) (fun w'_ hc_ => by go_simp) rfl rfl ?_
                intro ts_ ht_; simp only [List.setIfInBounds_toArray, List.set_cons_zero, List.set_cons_succ] at ht_; subst ht_
                refine q_do (.bool true) (fun w'_ hc_ => by go_simp) rfl rfl ?_
                intro ts_ ht_; simp only [List.setIfInBounds_toArray, List.set_cons_zero, List.set_cons_succ] at ht_; subst ht_
                refine q_end ?_
                rintro w8_ ⟨n_, rfl⟩
                replace HL := hid (HL.out.trans (n_.below.mono HL.out.size))
                generalize n_.world = w172 at *
                clear n_ WR64 WR32
                go_wp2_with fail
                (try simp only [Act.put, List.setIfInBounds_toArray, List.set_cons_zero, List.set_cons_succ])
                go_roundg k166
                case measure => have := HK165.out; omega
                case rel => exact ⟨wrap64 (x7_0 + 1), (by first | rfl | (simp; done) | (simp [*]; done)), H', (hid (by first | omega | (have := HK165.out; omega))), HL⟩
              · rw [if_neg c171] at H
                have c171b0 : ((bt a0 (wrap64 (a1 + x7_0)).toNat) == (bt a2 x7_0.toNat)) = false := beq_eq_false_iff_ne.mpr c171
                have c171b1 : ((bt a0 (wrap64 (a1 + x7_0)).toNat) != (bt a2 x7_0.toNat)) = true := bne_iff_ne.mpr c171
                have hc171 := hid c171
                clear c171
                obtain rfl := Option.some.inj H
                clear H
                go_wp2_with fail
                (try simp only [Act.put, List.setIfInBounds_toArray, List.set_cons_zero, List.set_cons_succ])
                have WR64 := i64_w
                have WR32 := i32_w
                refine up_regionW (by kernel_rfl) (by kernel_rfl) ?_
                refine q_do (.int .i64 x7_0) (fun w'_ hc_ => ex_mv (.tmp 7) (.inl rfl) _ rfl) rfl rfl ?_
                intro ts_ ht_; simp only [List.setIfInBounds_toArray, List.set_cons_zero, List.set_cons_succ] at ht_; subst ht_
                refine q_do (.string a2) (fun w'_ hc_ => ex_mv (.tmp 2) (.inl rfl) _ rfl) rfl rfl ?_
                intro ts_ ht_; simp only [List.setIfInBounds_toArray, List.set_cons_zero, List.set_cons_succ] at ht_; subst ht_
                refine q_do (.int .i64 (a2.size : Int)) (fun w'_ hc_ => by go_simp) rfl rfl ?_
                intro ts_ ht_; simp only [List.setIfInBounds_toArray, List.set_cons_zero, List.set_cons_succ] at ht_; subst ht_
                refine q_do (.bool true) (fun w'_ hc_ => by go_simp) rfl rfl ?_
                intro ts_ ht_; simp only [List.setIfInBounds_toArray, List.set_cons_zero, List.set_cons_succ] at ht_; subst ht_
                refine q_do (.bool true) (fun w'_ hc_ => ex_mv (.tmp 11) (.inl rfl) _ rfl) rfl rfl ?_
                intro ts_ ht_; simp only [List.setIfInBounds_toArray, List.set_cons_zero, List.set_cons_succ] at ht_; subst ht_
                refine q_do (.int .i64 a1) (fun w'_ hc_ => ex_mv (.tmp 1) (.inl rfl) _ rfl) rfl rfl ?_
                intro ts_ ht_; simp only [List.setIfInBounds_toArray, List.set_cons_zero, List.set_cons_succ] at ht_; subst ht_
                refine q_do (.int .i64 x7_0) (fun w'_ hc_ => ex_mv (.tmp 7) (.inl rfl) _ rfl) rfl rfl ?_
                intro ts_ ht_; simp only [List.setIfInBounds_toArray, List.set_cons_zero, List.set_cons_succ] at ht_; subst ht_
                refine q_do (.int .i64 (wrap64 (a1 + x7_0))) (fun w'_ hc_ => by go_simp) rfl rfl ?_
                intro ts_ ht_; simp only [List.setIfInBounds_toArray, List.set_cons_zero, List.set_cons_succ] at ht_; subst ht_
                refine q_do (.string a0) (fun w'_ hc_ => ex_mv (.tmp 0) (.inl rfl) _ rfl) rfl rfl ?_
                intro ts_ ht_; simp only [List.setIfInBounds_toArray, List.set_cons_zero, List.set_cons_succ] at ht_; subst ht_
                refine q_do (.int .i64 (a0.size : Int)) (fun w'_ hc_ => by go_simp) rfl rfl ?_
                intro ts_ ht_; simp only [List.setIfInBounds_toArray, List.set_cons_zero, List.set_cons_succ] at ht_; subst ht_
                refine q_do (.bool true) (fun w'_ hc_ => by go_simp) rfl rfl ?_
                intro ts_ ht_; simp only [List.setIfInBounds_toArray, List.set_cons_zero, List.set_cons_succ] at ht_; subst ht_
                refine q_do (.bool true) (fun w'_ hc_ => by go_simp) rfl rfl ?_
                intro ts_ ht_; simp only [List.setIfInBounds_toArray, List.set_cons_zero, List.set_cons_succ] at ht_; subst ht_
                refine q_do (.bool true) (fun w'_ hc_ => ex_mv (.tmp 19) (.inl rfl) _ rfl) rfl rfl ?_
                intro ts_ ht_; simp only [List.setIfInBounds_toArray, List.set_cons_zero, List.set_cons_succ] at ht_; subst ht_
                refine q_do (.string a0) (fun w'_ hc_ => ex_mv (.tmp 0) (.inl rfl) _ rfl) rfl rfl ?_
                intro ts_ ht_; simp only [List.setIfInBounds_toArray, List.set_cons_zero, List.set_cons_succ] at ht_; subst ht_
                refine q_do (.int .i64 a1) (fun w'_ hc_ => ex_mv (.tmp 1) (.inl rfl) _ rfl) rfl rfl ?_
                intro ts_ ht_; simp only [List.setIfInBounds_toArray, List.set_cons_zero, List.set_cons_succ] at ht_; subst ht_
                refine q_do (.int .i64 x7_0) (fun w'_ hc_ => ex_mv (.tmp 7) (.inl rfl) _ rfl) rfl rfl ?_
                intro ts_ ht_; simp only [List.setIfInBounds_toArray, List.set_cons_zero, List.set_cons_succ] at ht_; subst ht_
                refine q_do (.int .i64 (wrap64 (a1 + x7_0))) (fun w'_ hc_ => by go_simp) rfl rfl ?_
                intro ts_ ht_; simp only [List.setIfInBounds_toArray, List.set_cons_zero, List.set_cons_succ] at ht_; subst ht_
                refine q_do (.int .u8 (bt a0 (wrap64 (a1 + x7_0)).toNat)) (fun w'_ hc_ => by obtain ⟨n_, hn_⟩ := hc_; exact ex_ix 9 (.string a0) (.int .i64 (wrap64 (a1 + x7_0))) (.int .u8 (bt a0 (wrap64 (a1 + x7_0)).toNat)) (ix_txt a0 (wrap64 (a1 + x7_0)) hc169.out hc168.out) _ _ rfl rfl rfl) rfl rfl ?_
                intro ts_ ht_; simp only [List.setIfInBounds_toArray, List.set_cons_zero, List.set_cons_succ] at ht_; subst ht_
                refine q_do (.string a2) (fun w'_ hc_ => ex_mv (.tmp 2) (.inl rfl) _ rfl) rfl rfl ?_
                intro ts_ ht_; simp only [List.setIfInBounds_toArray, List.set_cons_zero, List.set_cons_succ] at ht_; subst ht_
                refine q_do (.int .i64 x7_0) (fun w'_ hc_ => ex_mv (.tmp 7) (.inl rfl) _ rfl) rfl rfl ?_
                intro ts_ ht_; simp only [List.setIfInBounds_toArray, List.set_cons_zero, List.set_cons_succ] at ht_; subst ht_
                refine q_do (.int .u8 (bt a2 x7_0.toNat)) (fun w'_ hc_ => by obtain ⟨n_, hn_⟩ := hc_; exact ex_ix 9 (.string a2) (.int .i64 x7_0) (.int .u8 (bt a2 x7_0.toNat)) (ix_txt a2 x7_0 hc170.out hc167.out) _ _ rfl rfl rfl) rfl rfl ?_
                intro ts_ ht_; simp only [List.setIfInBounds_toArray, List.set_cons_zero, List.set_cons_succ] at ht_; subst ht_
                refine q_do (.bool false) (fun w'_ hc_ => by go_simp) rfl rfl ?_
                intro ts_ ht_; simp only [List.setIfInBounds_toArray, List.set_cons_zero, List.set_cons_succ] at ht_; subst ht_
                refine q_do (.bool false) (fun w'_ hc_ => by go_simp) rfl rfl ?_
                intro ts_ ht_; simp only [List.setIfInBounds_toArray, List.set_cons_zero, List.set_cons_succ] at ht_; subst ht_
                refine q_end ?_
                rintro w8_ ⟨n_, rfl⟩
                replace HL := hid (HL.out.trans (n_.below.mono HL.out.size))
                generalize n_.world = w173 at *
                clear n_ WR64 WR32
                go_wp2_with fail
                (try simp only [Act.put, List.setIfInBounds_toArray, List.set_cons_zero, List.set_cons_succ])
                go_ret
                exact ⟨by first | rfl | (simp; done) | (simp [*]; done), HL.out⟩
            · rw [if_neg c170] at H
              exact absurd H (by simp)
          · rw [if_neg c169] at H
            exact absurd H (by simp)
        · rw [if_neg c168] at H
          have c168b0 : decide ((wrap64 (a1 + x7_0)) < (a0.size : Int)) = false := decide_eq_false c168
          have hc168 := hid c168
          clear c168
          obtain rfl := Option.some.inj H
          clear H
          go_wp2_with fail
          (try simp only [Act.put, List.setIfInBounds_toArray, List.set_cons_zero, List.set_cons_succ])
          have WR64 := i64_w
          have WR32 := i32_w
          refine up_regionW (by kernel_rfl) (by kernel_rfl) ?_
          refine q_do (.int .i64 x7_0) (fun w'_ hc_ => ex_mv (.tmp 7) (.inl rfl) _ rfl) rfl rfl ?_
          intro ts_ ht_; simp only [List.setIfInBounds_toArray, List.set_cons_zero, List.set_cons_succ] at ht_; subst ht_
          refine q_do (.string a2) (fun w'_ hc_ => ex_mv (.tmp 2) (.inl rfl) _ rfl) rfl rfl ?_
          intro ts_ ht_; simp only [List.setIfInBounds_toArray, List.set_cons_zero, List.set_cons_succ] at ht_; subst ht_
          refine q_do (.int .i64 (a2.size : Int)) (fun w'_ hc_ => by go_simp) rfl rfl ?_
          intro ts_ ht_; simp only [List.setIfInBounds_toArray, List.set_cons_zero, List.set_cons_succ] at ht_; subst ht_
          refine q_do (.bool true) (fun w'_ hc_ => by go_simp) rfl rfl ?_
          intro ts_ ht_; simp only [List.setIfInBounds_toArray, List.set_cons_zero, List.set_cons_succ] at ht_; subst ht_
          refine q_do (.bool true) (fun w'_ hc_ => ex_mv (.tmp 11) (.inl rfl) _ rfl) rfl rfl ?_
          intro ts_ ht_; simp only [List.setIfInBounds_toArray, List.set_cons_zero, List.set_cons_succ] at ht_; subst ht_
          refine q_do (.int .i64 a1) (fun w'_ hc_ => ex_mv (.tmp 1) (.inl rfl) _ rfl) rfl rfl ?_
          intro ts_ ht_; simp only [List.setIfInBounds_toArray, List.set_cons_zero, List.set_cons_succ] at ht_; subst ht_
          refine q_do (.int .i64 x7_0) (fun w'_ hc_ => ex_mv (.tmp 7) (.inl rfl) _ rfl) rfl rfl ?_
          intro ts_ ht_; simp only [List.setIfInBounds_toArray, List.set_cons_zero, List.set_cons_succ] at ht_; subst ht_
          refine q_do (.int .i64 (wrap64 (a1 + x7_0))) (fun w'_ hc_ => by go_simp) rfl rfl ?_
          intro ts_ ht_; simp only [List.setIfInBounds_toArray, List.set_cons_zero, List.set_cons_succ] at ht_; subst ht_
          refine q_do (.string a0) (fun w'_ hc_ => ex_mv (.tmp 0) (.inl rfl) _ rfl) rfl rfl ?_
          intro ts_ ht_; simp only [List.setIfInBounds_toArray, List.set_cons_zero, List.set_cons_succ] at ht_; subst ht_
          refine q_do (.int .i64 (a0.size : Int)) (fun w'_ hc_ => by go_simp) rfl rfl ?_
          intro ts_ ht_; simp only [List.setIfInBounds_toArray, List.set_cons_zero, List.set_cons_succ] at ht_; subst ht_
          refine q_do (.bool false) (fun w'_ hc_ => by go_simp) rfl rfl ?_
          intro ts_ ht_; simp only [List.setIfInBounds_toArray, List.set_cons_zero, List.set_cons_succ] at ht_; subst ht_
          refine q_do (.bool false) (fun w'_ hc_ => by go_simp) rfl rfl ?_
          intro ts_ ht_; simp only [List.setIfInBounds_toArray, List.set_cons_zero, List.set_cons_succ] at ht_; subst ht_
          refine q_do (.bool false) (fun w'_ hc_ => ex_mv (.tmp 19) (.inl rfl) _ rfl) rfl rfl ?_
          intro ts_ ht_; simp only [List.setIfInBounds_toArray, List.set_cons_zero, List.set_cons_succ] at ht_; subst ht_
          refine q_not 12 false rfl rfl rfl ?_
          intro ts_ ht_; simp only [List.setIfInBounds_toArray, List.set_cons_zero, List.set_cons_succ] at ht_; subst ht_
          refine q_not 12 false rfl rfl rfl ?_
          intro ts_ ht_; simp only [List.setIfInBounds_toArray, List.set_cons_zero, List.set_cons_succ] at ht_; subst ht_
          refine q_not 12 false rfl rfl rfl ?_
          intro ts_ ht_; simp only [List.setIfInBounds_toArray, List.set_cons_zero, List.set_cons_succ] at ht_; subst ht_
          refine q_not 12 false rfl rfl rfl ?_
          intro ts_ ht_; simp only [List.setIfInBounds_toArray, List.set_cons_zero, List.set_cons_succ] at ht_; subst ht_
          refine q_not 12 false rfl rfl rfl ?_
          intro ts_ ht_; simp only [List.setIfInBounds_toArray, List.set_cons_zero, List.set_cons_succ] at ht_; subst ht_
          refine q_not 12 false rfl rfl rfl ?_
          intro ts_ ht_; simp only [List.setIfInBounds_toArray, List.set_cons_zero, List.set_cons_succ] at ht_; subst ht_
          refine q_not 12 false rfl rfl rfl ?_
          intro ts_ ht_; simp only [List.setIfInBounds_toArray, List.set_cons_zero, List.set_cons_succ] at ht_; subst ht_
          refine q_not 12 false rfl rfl rfl ?_
          intro ts_ ht_; simp only [List.setIfInBounds_toArray, List.set_cons_zero, List.set_cons_succ] at ht_; subst ht_
          refine q_not 12 false rfl rfl rfl ?_
          intro ts_ ht_; simp only [List.setIfInBounds_toArray, List.set_cons_zero, List.set_cons_succ] at ht_; subst ht_
          refine q_do (.bool false) (fun w'_ hc_ => by go_simp) rfl rfl ?_
          intro ts_ ht_; simp only [List.setIfInBounds_toArray, List.set_cons_zero, List.set_cons_succ] at ht_; subst ht_
          refine q_end ?_
          rintro w8_ ⟨n_, rfl⟩
          replace HL := hid (HL.out.trans (n_.below.mono HL.out.size))
          generalize n_.world = w174 at *
          clear n_ WR64 WR32
          go_wp2_with fail
          (try simp only [Act.put, List.setIfInBounds_toArray, List.set_cons_zero, List.set_cons_succ])
          go_ret
          exact ⟨by first | rfl | (simp; done) | (simp [*]; done), HL.out⟩
      · rw [if_neg c167] at H
        have c167b0 : decide (x7_0 < (a2.size : Int)) = false := decide_eq_false c167
        have hc167 := hid c167
        clear c167
        obtain rfl := Option.some.inj H
        clear H
        go_wp2_with fail
        (try simp only [Act.put, List.setIfInBounds_toArray, List.set_cons_zero, List.set_cons_succ])
        have WR64 := i64_w
        have WR32 := i32_w
        refine up_regionW (by kernel_rfl) (by kernel_rfl) ?_
        refine q_do (.int .i64 x7_0) (fun w'_ hc_ => ex_mv (.tmp 7) (.inl rfl) _ rfl) rfl rfl ?_
        intro ts_ ht_; simp only [List.setIfInBounds_toArray, List.set_cons_zero, List.set_cons_succ] at ht_; subst ht_
        refine q_do (.string a2) (fun w'_ hc_ => ex_mv (.tmp 2) (.inl rfl) _ rfl) rfl rfl ?_
        intro ts_ ht_; simp only [List.setIfInBounds_toArray, List.set_cons_zero, List.set_cons_succ] at ht_; subst ht_
        refine q_do (.int .i64 (a2.size : Int)) (fun w'_ hc_ => by go_simp) rfl rfl ?_
        intro ts_ ht_; simp only [List.setIfInBounds_toArray, List.set_cons_zero, List.set_cons_succ] at ht_; subst ht_
        refine q_do (.bool false) (fun w'_ hc_ => by go_simp) rfl rfl ?_
        intro ts_ ht_; simp only [List.setIfInBounds_toArray, List.set_cons_zero, List.set_cons_succ] at ht_; subst ht_
        refine q_do (.bool false) (fun w'_ hc_ => ex_mv (.tmp 11) (.inl rfl) _ rfl) rfl rfl ?_
        intro ts_ ht_; simp only [List.setIfInBounds_toArray, List.set_cons_zero, List.set_cons_succ] at ht_; subst ht_
        refine q_not 4 false rfl rfl rfl ?_
        intro ts_ ht_; simp only [List.setIfInBounds_toArray, List.set_cons_zero, List.set_cons_succ] at ht_; subst ht_
        refine q_not 4 false rfl rfl rfl ?_
        intro ts_ ht_; simp only [List.setIfInBounds_toArray, List.set_cons_zero, List.set_cons_succ] at ht_; subst ht_
        refine q_not 4 false rfl rfl rfl ?_
        intro ts_ ht_; simp only [List.setIfInBounds_toArray, List.set_cons_zero, List.set_cons_succ] at ht_; subst ht_
        refine q_not 4 false rfl rfl rfl ?_
        intro ts_ ht_; simp only [List.setIfInBounds_toArray, List.set_cons_zero, List.set_cons_succ] at ht_; subst ht_
        refine q_not 4 false rfl rfl rfl ?_
        intro ts_ ht_; simp only [List.setIfInBounds_toArray, List.set_cons_zero, List.set_cons_succ] at ht_; subst ht_
        refine q_not 4 false rfl rfl rfl ?_
        intro ts_ ht_; simp only [List.setIfInBounds_toArray, List.set_cons_zero, List.set_cons_succ] at ht_; subst ht_
        refine q_do (.bool false) (fun w'_ hc_ => by go_simp) rfl rfl ?_
        intro ts_ ht_; simp only [List.setIfInBounds_toArray, List.set_cons_zero, List.set_cons_succ] at ht_; subst ht_
        refine q_do (.bool false) (fun w'_ hc_ => ex_mv (.tmp 19) (.inl rfl) _ rfl) rfl rfl ?_
        intro ts_ ht_; simp only [List.setIfInBounds_toArray, List.set_cons_zero, List.set_cons_succ] at ht_; subst ht_
        refine q_not 12 false rfl rfl rfl ?_
        intro ts_ ht_; simp only [List.setIfInBounds_toArray, List.set_cons_zero, List.set_cons_succ] at ht_; subst ht_
        refine q_not 12 false rfl rfl rfl ?_
        intro ts_ ht_; simp only [List.setIfInBounds_toArray, List.set_cons_zero, List.set_cons_succ] at ht_; subst ht_
        refine q_not 12 false rfl rfl rfl ?_
        intro ts_ ht_; simp only [List.setIfInBounds_toArray, List.set_cons_zero, List.set_cons_succ] at ht_; subst ht_
        refine q_not 12 false rfl rfl rfl ?_
        intro ts_ ht_; simp only [List.setIfInBounds_toArray, List.set_cons_zero, List.set_cons_succ] at ht_; subst ht_
        refine q_not 12 false rfl rfl rfl ?_
        intro ts_ ht_; simp only [List.setIfInBounds_toArray, List.set_cons_zero, List.set_cons_succ] at ht_; subst ht_
        refine q_not 12 false rfl rfl rfl ?_
        intro ts_ ht_; simp only [List.setIfInBounds_toArray, List.set_cons_zero, List.set_cons_succ] at ht_; subst ht_
        refine q_not 12 false rfl rfl rfl ?_
        intro ts_ ht_; simp only [List.setIfInBounds_toArray, List.set_cons_zero, List.set_cons_succ] at ht_; subst ht_
        refine q_not 12 false rfl rfl rfl ?_
        intro ts_ ht_; simp only [List.setIfInBounds_toArray, List.set_cons_zero, List.set_cons_succ] at ht_; subst ht_
        refine q_not 12 false rfl rfl rfl ?_
        intro ts_ ht_; simp only [List.setIfInBounds_toArray, List.set_cons_zero, List.set_cons_succ] at ht_; subst ht_
        refine q_do (.bool false) (fun w'_ hc_ => by go_simp) rfl rfl ?_
        intro ts_ ht_; simp only [List.setIfInBounds_toArray, List.set_cons_zero, List.set_cons_succ] at ht_; subst ht_
        refine q_end ?_
        rintro w8_ ⟨n_, rfl⟩
        replace HL := hid (HL.out.trans (n_.below.mono HL.out.size))
        generalize n_.world = w175 at *
        clear n_ WR64 WR32
        go_wp2_with fail
        (try simp only [Act.put, List.setIfInBounds_toArray, List.set_cons_zero, List.set_cons_succ])
        go_ret
        exact ⟨by first | rfl | (simp; done) | (simp [*]; done), HL.out⟩
/-! i_alfilref14_Word: function 11 -/
def i_alfilref14_Word.f (k : Nat) (a0 : ByteArray) (a1 : Int) (a2 : ByteArray) : Option (Int × Int × Int) := (i_alfilref14_There.f a0 a1).bind fun t177 => (if t177 = true then ((i_alfilref14_fits.f k a0 a1 a2).bind fun t178 => (if t178 = (a2.size : Int) then (some (wrap64 (a1 + t178), 0, 0)) else (if (wrap64 (a1 + t178)) = (a0.size : Int) then (some (wrap64 (a1 + t178), 0, 1)) else (some (wrap64 (a1 + t178), 0, 2))))) else (some (0, 0, 5)))
set_option maxHeartbeats 40000000 in
set_option maxRecDepth 100000 in
theorem i_alfilref14_Word.calls (k : Nat) (a0 : ByteArray) (a1 : Int) (a2 : ByteArray) (r1 : Int) (r2 : Int) (r3 : Int) (w : World) (h : i_alfilref14_Word.f k a0 a1 a2 = some (r1, r2, r3)) :
    Calls Try.prog 11 #[.string a0, .int .i64 a1, .string a2] w fun e w' => e = .returned (.agg #[.int .i64 r1, .int .i64 r2, .int .i64 r3]) ∧ Below w.heap.size w w' := by
  have HL := hid (Below.refl w.heap.size w)
  have H : ((i_alfilref14_There.f a0 a1).bind fun t177 => (if t177 = true then ((i_alfilref14_fits.f k a0 a1 a2).bind fun t178 => (if t178 = (a2.size : Int) then (some (wrap64 (a1 + t178), 0, 0)) else (if (wrap64 (a1 + t178)) = (a0.size : Int) then (some (wrap64 (a1 + t178), 0, 1)) else (some (wrap64 (a1 + t178), 0, 2))))) else (some (0, 0, 5)))) = some (r1, r2, r3) := h
  clear h
  replace H := Option.bind_eq_some_iff.mp H
  obtain ⟨t177, A179_, H⟩ := H
  replace H : (if t177 = true then ((i_alfilref14_fits.f k a0 a1 a2).bind fun t178 => (if t178 = (a2.size : Int) then (some (wrap64 (a1 + t178), 0, 0)) else (if (wrap64 (a1 + t178)) = (a0.size : Int) then (some (wrap64 (a1 + t178), 0, 1)) else (some (wrap64 (a1 + t178), 0, 2))))) else (some (0, 0, 5))) = some (r1, r2, r3) := H
  have A179 := hid A179_
  clear A179_
  cases t177 with
  | true =>
    rw [if_pos rfl] at H
    replace H := Option.bind_eq_some_iff.mp H
    obtain ⟨t178, A181_, H⟩ := H
    replace H : (if t178 = (a2.size : Int) then (some (wrap64 (a1 + t178), 0, 0)) else (if (wrap64 (a1 + t178)) = (a0.size : Int) then (some (wrap64 (a1 + t178), 0, 1)) else (some (wrap64 (a1 + t178), 0, 2)))) = some (r1, r2, r3) := H
    have A181 := hid A181_
    clear A181_
    by_cases c182 : t178 = (a2.size : Int)
    · rw [if_pos c182] at H
      have c182b0 : (t178 == (a2.size : Int)) = true := beq_iff_eq.mpr c182
      have c182b1 : (t178 != (a2.size : Int)) = false := bne_eq_false_iff_eq.mpr c182
      have hc182 := hid c182
      clear c182
      simp only [Option.some.injEq, Prod.mk.injEq] at H
      obtain ⟨rfl, rfl, rfl⟩ := H
      go_enter Try.func11, Try.ntmps11
      have k184 := True.intro
      have k185 := True.intro
      go_wp2_with (first
        | ((with_reducible refine gate_d (N := 6) rfl ?_); obtain ⟨gb176, hgb176⟩ : ∃ g_, w.heap.size = g_ := ⟨_, rfl⟩; refine ag_alloc aT26 gb176 hgb176 rfl rfl ?_; intro w183 hb_ hB_ hs_; have GEb176 : Hid (w.heap.size ≤ gb176) := hid (by have := HL.out.size; omega); replace HL := hid (HL.out.trans (hb_.mono GEb176.out)); have BKb176 := hid hB_; clear hb_ hB_ hs_ hgb176)
        | (go_at_call 29; clear k184; refine (i_alfilref14_There.calls a0 a1 true _ A179.out).mono ?_; rintro e_ w' ⟨rfl, rfl⟩)
        | (go_at_call 30; clear k185; refine (i_alfilref14_fits.calls k a0 a1 a2 t178 _ A181.out).mono ?_; rintro e_ w186 ⟨rfl, hb_⟩; replace BKb176 := hid (BKb176.out.below hb_ BKb176.out.lt); replace HL := hid (HL.out.trans (hb_.mono HL.out.size)); clear hb_)
        | ((with_reducible refine gate_d (N := 24) rfl ?_); refine ag_build (.agg #[.int .i64 (wrap64 (a1 + t178)), .int .i64 0, .int .i64 0]) _ rfl rfl ?_ ?_; (intro ww_; simp only [List.map_toArray, List.map_cons, List.map_nil]; kernel_rfl))
        | ((with_reducible refine gate_s (t := 26) (p := 6) rfl ?_); refine ag_store aT26 gb176 0 #[.int .i64 0, .int .i64 0, .int .i64 0] #[.int .i64 (wrap64 (a1 + t178)), .int .i64 0, .int .i64 0] #[.int .i64 (wrap64 (a1 + t178)), .int .i64 0, .int .i64 0] BKb176.out rfl (by simp) (by intro v_ hv_; simp at hv_; rcases hv_ with rfl | rfl | rfl <;> first | rfl) rfl rfl _ _ rfl rfl rfl ?_; intro w187 ho_ hB_; replace HL := hid (ho_.below HL.out GEb176.out); replace BKb176 := hid hB_; clear ho_ hB_))
      (try simp only [Act.put, List.setIfInBounds_toArray, List.set_cons_zero, List.set_cons_succ])
      refine bodyPost_ret (v := .agg #[.int .i64 (wrap64 (a1 + t178)), .int .i64 0, .int .i64 0]) (res_c aT26 rfl _ gb176 #[.int .i64 (wrap64 (a1 + t178)), .int .i64 0, .int .i64 0] BKb176.out rfl rfl) rfl ?_
      exact ⟨by first | rfl | (simp; done) | (simp [*]; done), HL.out⟩
    · rw [if_neg c182] at H
      have c182b0 : (t178 == (a2.size : Int)) = false := beq_eq_false_iff_ne.mpr c182
      have c182b1 : (t178 != (a2.size : Int)) = true := bne_iff_ne.mpr c182
      have hc182 := hid c182
      clear c182
      by_cases c188 : (wrap64 (a1 + t178)) = (a0.size : Int)
      · rw [if_pos c188] at H
        have c188b0 : ((wrap64 (a1 + t178)) == (a0.size : Int)) = true := beq_iff_eq.mpr c188
        have c188b1 : ((wrap64 (a1 + t178)) != (a0.size : Int)) = false := bne_eq_false_iff_eq.mpr c188
        have hc188 := hid c188
        clear c188
        simp only [Option.some.injEq, Prod.mk.injEq] at H
        obtain ⟨rfl, rfl, rfl⟩ := H
        go_enter Try.func11, Try.ntmps11
        have k190 := True.intro
        have k191 := True.intro
        go_wp2_with (first
          | ((with_reducible refine gate_d (N := 6) rfl ?_); obtain ⟨gb176, hgb176⟩ : ∃ g_, w.heap.size = g_ := ⟨_, rfl⟩; refine ag_alloc aT26 gb176 hgb176 rfl rfl ?_; intro w189 hb_ hB_ hs_; have GEb176 : Hid (w.heap.size ≤ gb176) := hid (by have := HL.out.size; omega); replace HL := hid (HL.out.trans (hb_.mono GEb176.out)); have BKb176 := hid hB_; clear hb_ hB_ hs_ hgb176)
          | (go_at_call 29; clear k190; refine (i_alfilref14_There.calls a0 a1 true _ A179.out).mono ?_; rintro e_ w' ⟨rfl, rfl⟩)
          | (go_at_call 30; clear k191; refine (i_alfilref14_fits.calls k a0 a1 a2 t178 _ A181.out).mono ?_; rintro e_ w192 ⟨rfl, hb_⟩; replace BKb176 := hid (BKb176.out.below hb_ BKb176.out.lt); replace HL := hid (HL.out.trans (hb_.mono HL.out.size)); clear hb_)
          | ((with_reducible refine gate_d (N := 34) rfl ?_); refine ag_build (.agg #[.int .i64 (wrap64 (a1 + t178)), .int .i64 0, .int .i64 1]) _ rfl rfl ?_ ?_; (intro ww_; simp only [List.map_toArray, List.map_cons, List.map_nil]; kernel_rfl))
          | ((with_reducible refine gate_s (t := 26) (p := 6) rfl ?_); refine ag_store aT26 gb176 0 #[.int .i64 0, .int .i64 0, .int .i64 0] #[.int .i64 (wrap64 (a1 + t178)), .int .i64 0, .int .i64 1] #[.int .i64 (wrap64 (a1 + t178)), .int .i64 0, .int .i64 1] BKb176.out rfl (by simp) (by intro v_ hv_; simp at hv_; rcases hv_ with rfl | rfl | rfl <;> first | rfl) rfl rfl _ _ rfl rfl rfl ?_; intro w193 ho_ hB_; replace HL := hid (ho_.below HL.out GEb176.out); replace BKb176 := hid hB_; clear ho_ hB_))
        (try simp only [Act.put, List.setIfInBounds_toArray, List.set_cons_zero, List.set_cons_succ])
        refine bodyPost_ret (v := .agg #[.int .i64 (wrap64 (a1 + t178)), .int .i64 0, .int .i64 1]) (res_c aT26 rfl _ gb176 #[.int .i64 (wrap64 (a1 + t178)), .int .i64 0, .int .i64 1] BKb176.out rfl rfl) rfl ?_
        exact ⟨by first | rfl | (simp; done) | (simp [*]; done), HL.out⟩
      · rw [if_neg c188] at H
        have c188b0 : ((wrap64 (a1 + t178)) == (a0.size : Int)) = false := beq_eq_false_iff_ne.mpr c188
        have c188b1 : ((wrap64 (a1 + t178)) != (a0.size : Int)) = true := bne_iff_ne.mpr c188
        have hc188 := hid c188
        clear c188
        simp only [Option.some.injEq, Prod.mk.injEq] at H
        obtain ⟨rfl, rfl, rfl⟩ := H
        go_enter Try.func11, Try.ntmps11
        have k195 := True.intro
        have k196 := True.intro
        go_wp2_with (first
          | ((with_reducible refine gate_d (N := 6) rfl ?_); obtain ⟨gb176, hgb176⟩ : ∃ g_, w.heap.size = g_ := ⟨_, rfl⟩; refine ag_alloc aT26 gb176 hgb176 rfl rfl ?_; intro w194 hb_ hB_ hs_; have GEb176 : Hid (w.heap.size ≤ gb176) := hid (by have := HL.out.size; omega); replace HL := hid (HL.out.trans (hb_.mono GEb176.out)); have BKb176 := hid hB_; clear hb_ hB_ hs_ hgb176)
          | (go_at_call 29; clear k195; refine (i_alfilref14_There.calls a0 a1 true _ A179.out).mono ?_; rintro e_ w' ⟨rfl, rfl⟩)
          | (go_at_call 30; clear k196; refine (i_alfilref14_fits.calls k a0 a1 a2 t178 _ A181.out).mono ?_; rintro e_ w197 ⟨rfl, hb_⟩; replace BKb176 := hid (BKb176.out.below hb_ BKb176.out.lt); replace HL := hid (HL.out.trans (hb_.mono HL.out.size)); clear hb_)
          | ((with_reducible refine gate_d (N := 38) rfl ?_); refine ag_build (.agg #[.int .i64 (wrap64 (a1 + t178)), .int .i64 0, .int .i64 2]) _ rfl rfl ?_ ?_; (intro ww_; simp only [List.map_toArray, List.map_cons, List.map_nil]; kernel_rfl))
          | ((with_reducible refine gate_s (t := 26) (p := 6) rfl ?_); refine ag_store aT26 gb176 0 #[.int .i64 0, .int .i64 0, .int .i64 0] #[.int .i64 (wrap64 (a1 + t178)), .int .i64 0, .int .i64 2] #[.int .i64 (wrap64 (a1 + t178)), .int .i64 0, .int .i64 2] BKb176.out rfl (by simp) (by intro v_ hv_; simp at hv_; rcases hv_ with rfl | rfl | rfl <;> first | rfl) rfl rfl _ _ rfl rfl rfl ?_; intro w198 ho_ hB_; replace HL := hid (ho_.below HL.out GEb176.out); replace BKb176 := hid hB_; clear ho_ hB_))
        (try simp only [Act.put, List.setIfInBounds_toArray, List.set_cons_zero, List.set_cons_succ])
        refine bodyPost_ret (v := .agg #[.int .i64 (wrap64 (a1 + t178)), .int .i64 0, .int .i64 2]) (res_c aT26 rfl _ gb176 #[.int .i64 (wrap64 (a1 + t178)), .int .i64 0, .int .i64 2] BKb176.out rfl rfl) rfl ?_
        exact ⟨by first | rfl | (simp; done) | (simp [*]; done), HL.out⟩
  | false =>
    rw [if_neg (show ¬ (false = true) by decide)] at H
    simp only [Option.some.injEq, Prod.mk.injEq] at H
    obtain ⟨rfl, rfl, rfl⟩ := H
    go_enter Try.func11, Try.ntmps11
    have k200 := True.intro
    go_wp2_with (first
      | ((with_reducible refine gate_d (N := 6) rfl ?_); obtain ⟨gb176, hgb176⟩ : ∃ g_, w.heap.size = g_ := ⟨_, rfl⟩; refine ag_alloc aT26 gb176 hgb176 rfl rfl ?_; intro w199 hb_ hB_ hs_; have GEb176 : Hid (w.heap.size ≤ gb176) := hid (by have := HL.out.size; omega); replace HL := hid (HL.out.trans (hb_.mono GEb176.out)); have BKb176 := hid hB_; clear hb_ hB_ hs_ hgb176)
      | (go_at_call 29; clear k200; refine (i_alfilref14_There.calls a0 a1 false _ A179.out).mono ?_; rintro e_ w' ⟨rfl, rfl⟩)
      | ((with_reducible refine gate_d (N := 12) rfl ?_); refine ag_build (.agg #[.int .i64 0, .int .i64 0, .int .i64 5]) _ rfl rfl ?_ ?_; (intro ww_; simp only [List.map_toArray, List.map_cons, List.map_nil]; kernel_rfl))
      | ((with_reducible refine gate_s (t := 26) (p := 6) rfl ?_); refine ag_store aT26 gb176 0 #[.int .i64 0, .int .i64 0, .int .i64 0] #[.int .i64 0, .int .i64 0, .int .i64 5] #[.int .i64 0, .int .i64 0, .int .i64 5] BKb176.out rfl (by simp) (by intro v_ hv_; simp at hv_; rcases hv_ with rfl | rfl | rfl <;> first | rfl) rfl rfl _ _ rfl rfl rfl ?_; intro w201 ho_ hB_; replace HL := hid (ho_.below HL.out GEb176.out); replace BKb176 := hid hB_; clear ho_ hB_))
    (try simp only [Act.put, List.setIfInBounds_toArray, List.set_cons_zero, List.set_cons_succ])
    refine bodyPost_ret (v := .agg #[.int .i64 0, .int .i64 0, .int .i64 5]) (res_c aT26 rfl _ gb176 #[.int .i64 0, .int .i64 0, .int .i64 5] BKb176.out rfl rfl) rfl ?_
    exact ⟨by first | rfl | (simp; done) | (simp [*]; done), HL.out⟩
/-! i_alfilref14_begins: function 32 -/
def i_alfilref14_begins.f (a0 : ByteArray) (a1 : ByteArray) : Option (Bool) := if (a0.size : Int) ≥ (a1.size : Int) then (if 0 ≤ (a1.size : Int) then (if (a1.size : Int) ≤ (a0.size : Int) then (some ((a0.extract 0 a1.size).toList == a1.toList)) else (none)) else (none)) else (some false)
set_option maxHeartbeats 40000000 in
set_option maxRecDepth 100000 in
theorem i_alfilref14_begins.calls (a0 : ByteArray) (a1 : ByteArray) (r1 : Bool) (w : World) (h : i_alfilref14_begins.f a0 a1 = some r1) :
    Calls Try.prog 32 #[.string a0, .string a1] w fun e w' => e = .returned (.bool r1) ∧ w = w' := by
  have H : (if (a0.size : Int) ≥ (a1.size : Int) then (if 0 ≤ (a1.size : Int) then (if (a1.size : Int) ≤ (a0.size : Int) then (some ((a0.extract 0 a1.size).toList == a1.toList)) else (none)) else (none)) else (some false)) = some r1 := h
  clear h
  by_cases c202 : (a0.size : Int) ≥ (a1.size : Int)
  · rw [if_pos c202] at H
    have c202b0 : decide ((a1.size : Int) ≤ (a0.size : Int)) = true := decide_eq_true c202
    have c202b1 : decide (a1.size ≤ a0.size) = true := decide_eq_true (Int.ofNat_le.mp c202)
    have hc202 := hid c202
    clear c202
    by_cases c203 : 0 ≤ (a1.size : Int)
    · rw [if_pos c203] at H
      have c203b0 : decide (0 ≤ (a1.size : Int)) = true := decide_eq_true c203
      have c203b1 : decide (0 ≤ a1.size) = true := decide_eq_true (by omega)
      have hc203 := hid c203
      clear c203
      by_cases c204 : (a1.size : Int) ≤ (a0.size : Int)
      · rw [if_pos c204] at H
        have c204b0 : decide ((a1.size : Int) ≤ (a0.size : Int)) = true := decide_eq_true c204
        have c204b1 : decide (a1.size ≤ a0.size) = true := decide_eq_true (Int.ofNat_le.mp c204)
        have hc204 := hid c204
        clear c204
        obtain rfl := Option.some.inj H
        clear H
        go_enter Try.func32, Try.ntmps32
        go_wp2_with (first
          | ((with_reducible refine gate_d (N := 14) rfl ?_); refine ag_fix (.string (a0.extract 0 a1.size)) (ex_cut_h 9 und_txt a0 (a1.size : Int) hc203.out hc204.out _ _ rfl rfl rfl) rfl ?_))
        (try simp only [Act.put, List.setIfInBounds_toArray, List.set_cons_zero, List.set_cons_succ])
        go_ret
        exact ⟨by first | rfl | (simp; done) | (simp [*]; done), rfl⟩
      · rw [if_neg c204] at H
        exact absurd H (by simp)
    · rw [if_neg c203] at H
      exact absurd H (by simp)
  · rw [if_neg c202] at H
    have c202b0 : decide ((a1.size : Int) ≤ (a0.size : Int)) = false := decide_eq_false c202
    have c202b1 : decide (a1.size ≤ a0.size) = false := decide_eq_false (fun h => c202 (Int.ofNat_le.mpr h))
    have hc202 := hid c202
    clear c202
    obtain rfl := Option.some.inj H
    clear H
    go_enter Try.func32, Try.ntmps32
    go_wp2_with fail
    (try simp only [Act.put, List.setIfInBounds_toArray, List.set_cons_zero, List.set_cons_succ])
    go_ret
    exact ⟨by first | rfl | (simp; done) | (simp [*]; done), rfl⟩
/-! i_alfilref14_Apart: function 16 -/
mutual
def i_alfilref14_Apart.l0 : Nat → List ByteArray → Int → Option (Bool)
  | 0, _, _ => none
  | k + 1, a0, x3_0 => if x3_0 < (a0.length : Int) then (if 0 ≤ x3_0 then (if (nt a0 x3_0.toNat ByteArray.empty).toList = ([] : List UInt8) then (some false) else (i_alfilref14_Apart.l1 k a0 x3_0 0)) else (none)) else (some (decide ((a0.length : Int) > 0)))
def i_alfilref14_Apart.l1 : Nat → List ByteArray → Int → Int → Option (Bool)
  | 0, _, _, _ => none
  | k + 1, a0, x3_0, x4_1 => if x4_1 < (a0.length : Int) then (if x3_0 = x4_1 then (i_alfilref14_Apart.l1 k a0 x3_0 (wrap64 (x4_1 + 1))) else (if 0 ≤ x4_1 then (if 0 ≤ x3_0 then (if x3_0 < (a0.length : Int) then ((i_alfilref14_begins.f (nt a0 x4_1.toNat ByteArray.empty) (nt a0 x3_0.toNat ByteArray.empty)).bind fun t218 => (if t218 = true then (some false) else (i_alfilref14_Apart.l1 k a0 x3_0 (wrap64 (x4_1 + 1))))) else (none)) else (none)) else (none))) else (i_alfilref14_Apart.l0 k a0 (wrap64 (x3_0 + 1)))
end
def i_alfilref14_Apart.f (k : Nat) (a0 : List ByteArray) : Option (Bool) := i_alfilref14_Apart.l0 k a0 0
set_option maxHeartbeats 40000000 in
set_option maxRecDepth 100000 in
theorem i_alfilref14_Apart.calls (k : Nat) (v0_ : Value) (a0 : List ByteArray) (r1 : Bool) (w : World) (hs0 : Sl w v0_ (a0.map Value.string)) (h : i_alfilref14_Apart.f k a0 = some r1) :
    Calls Try.prog 16 #[v0_] w fun e w' => e = .returned (.bool r1) ∧ Below w.heap.size w w' := by
  have HL := hid (Below.refl w.heap.size w)
  have SP0 := hid hs0
  clear hs0
  have H : (i_alfilref14_Apart.l0 k a0 0) = some r1 := h
  clear h
  have H' := hid H
  clear H
  go_enter Try.func16, Try.ntmps16
  go_wp2_with fail
  (try simp only [Act.put, List.setIfInBounds_toArray, List.set_cons_zero, List.set_cons_succ])
  go_loopg [3] k (fun kq v3 w' => ∃ (x3_0 : Int), v3 = .int .i64 x3_0 ∧ Hid (i_alfilref14_Apart.l0 kq a0 x3_0 = some r1) ∧ Hid (kq ≤ k) ∧ Hid (Below w.heap.size w w'))
  case atStart => exact ⟨(0 : Int), (by first | rfl | (simp; done) | (simp [*]; done)), H', (hid (by first | omega | (omega))), HL⟩
  case round =>
    clear H'
    clear HL
    obtain ⟨x3_0, rfl, HA, HK219, HL⟩ := hrel
    cases gk with
    | zero => exact absurd HA.out (by simp [i_alfilref14_Apart.l0])
    | succ k220 =>
      have H := HA.out
      clear HA
      simp only [i_alfilref14_Apart.l0] at H
      by_cases c221 : x3_0 < (a0.length : Int)
      · rw [if_pos c221] at H
        have c221b0 : decide (x3_0 < (a0.length : Int)) = true := decide_eq_true c221
        have hc221 := hid c221
        clear c221
        by_cases c222 : 0 ≤ x3_0
        · rw [if_pos c222] at H
          have c222b0 : decide (0 ≤ x3_0) = true := decide_eq_true c222
          have hc222 := hid c222
          clear c222
          by_cases c223 : (nt a0 x3_0.toNat ByteArray.empty).toList = ([] : List UInt8)
          · rw [if_pos c223] at H
            have c223b0 : ((nt a0 x3_0.toNat ByteArray.empty).toList == ([] : List UInt8)) = true := beq_iff_eq.mpr c223
            have c223b1 : ((nt a0 x3_0.toNat ByteArray.empty).toList != ([] : List UInt8)) = false := bne_eq_false_iff_eq.mpr c223
            have hc223 := hid c223
            clear c223
            obtain rfl := Option.some.inj H
            clear H
            go_wp2_with (first
              | ((with_reducible refine gate_d (N := 7) rfl ?_); obtain ⟨A224, c225, hv226⟩ := (SP0.out.below HL.out).shape; rw [List.length_map] at hv226; refine ag_fix (.int .i64 (a0.length : Int)) (ex_len us22 _ _ _ _ hv226 _ rfl rfl) rfl ?_; clear hv226)
              | ((with_reducible refine gate_d (N := 13) rfl ?_); obtain ⟨ad212, c227, hv228, HCad212_⟩ := Sl.get (l := a0) (f := Value.string) (SP0.out.below HL.out) ByteArray.empty (i := x3_0) hc222.out hc221.out; have HCad212 := hid HCad212_; clear HCad212_; refine ag_fix (.pointer (some (ad212.add x3_0.toNat))) (ex_sat _ _ x3_0 _ _ hv228 hc222.out hc221.out us22 sT9 _ _ rfl rfl rfl) rfl ?_; clear hv228)
              | ((with_reducible refine gate_d (N := 14) rfl ?_); refine ag_fix (.string (nt a0 x3_0.toNat ByteArray.empty)) (ex_scell sT9 _ _ HCad212.out _ rfl rfl) rfl ?_))
            (try simp only [Act.put, List.setIfInBounds_toArray, List.set_cons_zero, List.set_cons_succ])
            go_ret
            exact ⟨by first | rfl | (simp; done) | (simp [*]; done), HL.out⟩
          · rw [if_neg c223] at H
            have c223b0 : ((nt a0 x3_0.toNat ByteArray.empty).toList == ([] : List UInt8)) = false := beq_eq_false_iff_ne.mpr c223
            have c223b1 : ((nt a0 x3_0.toNat ByteArray.empty).toList != ([] : List UInt8)) = true := bne_iff_ne.mpr c223
            have hc223 := hid c223
            clear c223
            have H' := hid H
            clear H
            go_wp2_with (first
              | ((with_reducible refine gate_d (N := 7) rfl ?_); obtain ⟨A229, c230, hv231⟩ := (SP0.out.below HL.out).shape; rw [List.length_map] at hv231; refine ag_fix (.int .i64 (a0.length : Int)) (ex_len us22 _ _ _ _ hv231 _ rfl rfl) rfl ?_; clear hv231)
              | ((with_reducible refine gate_d (N := 13) rfl ?_); obtain ⟨ad212, c232, hv233, HCad212_⟩ := Sl.get (l := a0) (f := Value.string) (SP0.out.below HL.out) ByteArray.empty (i := x3_0) hc222.out hc221.out; have HCad212 := hid HCad212_; clear HCad212_; refine ag_fix (.pointer (some (ad212.add x3_0.toNat))) (ex_sat _ _ x3_0 _ _ hv233 hc222.out hc221.out us22 sT9 _ _ rfl rfl rfl) rfl ?_; clear hv233)
              | ((with_reducible refine gate_d (N := 14) rfl ?_); refine ag_fix (.string (nt a0 x3_0.toNat ByteArray.empty)) (ex_scell sT9 _ _ HCad212.out _ rfl rfl) rfl ?_))
            (try simp only [Act.put, List.setIfInBounds_toArray, List.set_cons_zero, List.set_cons_succ])
            go_loopg [4] k220 (fun kq v4 w' => ∃ (x4_1 : Int), v4 = .int .i64 x4_1 ∧ Hid (i_alfilref14_Apart.l1 kq a0 x3_0 x4_1 = some r1) ∧ Hid (kq ≤ k220) ∧ Hid (Below w.heap.size w w'))
            case atStart => exact ⟨(0 : Int), (by first | rfl | (simp; done) | (simp [*]; done)), H', (hid (by first | omega | (have := HK219.out; omega))), HL⟩
            case round =>
              clear H'
              clear HL
              obtain ⟨x4_1, rfl, HA, HK234, HL⟩ := hrel
              cases gk with
              | zero => exact absurd HA.out (by simp [i_alfilref14_Apart.l1])
              | succ k235 =>
                have H := HA.out
                clear HA
                simp only [i_alfilref14_Apart.l1] at H
                by_cases c236 : x4_1 < (a0.length : Int)
                · rw [if_pos c236] at H
                  have c236b0 : decide (x4_1 < (a0.length : Int)) = true := decide_eq_true c236
                  have hc236 := hid c236
                  clear c236
                  by_cases c237 : x3_0 = x4_1
                  · rw [if_pos c237] at H
                    have c237b0 : (x3_0 == x4_1) = true := beq_iff_eq.mpr c237
                    have c237b1 : (x3_0 != x4_1) = false := bne_eq_false_iff_eq.mpr c237
                    have hc237 := hid c237
                    clear c237
                    have H' := hid H
                    clear H
                    go_wp2_with (first
                      | ((with_reducible refine gate_d (N := 18) rfl ?_); obtain ⟨A238, c239, hv240⟩ := (SP0.out.below HL.out).shape; rw [List.length_map] at hv240; refine ag_fix (.int .i64 (a0.length : Int)) (ex_len us22 _ _ _ _ hv240 _ rfl rfl) rfl ?_; clear hv240))
                    (try simp only [Act.put, List.setIfInBounds_toArray, List.set_cons_zero, List.set_cons_succ])
                    have WR64 := i64_w
                    have WR32 := i32_w
                    refine up_regionW (by kernel_rfl) (by kernel_rfl) ?_
                    refine q_do (.int .i64 x3_0) (fun w'_ hc_ => ex_mv (.tmp 3) (.inl rfl) _ rfl) rfl rfl ?_
                    intro ts_ ht_; simp only [List.setIfInBounds_toArray, List.set_cons_zero, List.set_cons_succ] at ht_; subst ht_
                    refine q_do (.int .i64 x4_1) (fun w'_ hc_ => ex_mv (.tmp 4) (.inl rfl) _ rfl) rfl rfl ?_
                    intro ts_ ht_; simp only [List.setIfInBounds_toArray, List.set_cons_zero, List.set_cons_succ] at ht_; subst ht_
                    refine q_do (.bool false) (fun w'_ hc_ => by go_simp) rfl rfl ?_
                    intro ts_ ht_; simp only [List.setIfInBounds_toArray, List.set_cons_zero, List.set_cons_succ] at ht_; subst ht_
                    refine q_do (.bool false) (fun w'_ hc_ => ex_mv (.tmp 24) (.inl rfl) _ rfl) rfl rfl ?_
                    intro ts_ ht_; simp only [List.setIfInBounds_toArray, List.set_cons_zero, List.set_cons_succ] at ht_; subst ht_
                    refine q_not 3 false rfl rfl rfl ?_
                    intro ts_ ht_; simp only [List.setIfInBounds_toArray, List.set_cons_zero, List.set_cons_succ] at ht_; subst ht_
                    refine q_not 3 false rfl rfl rfl ?_
                    intro ts_ ht_; simp only [List.setIfInBounds_toArray, List.set_cons_zero, List.set_cons_succ] at ht_; subst ht_
                    refine q_not 3 false rfl rfl rfl ?_
                    intro ts_ ht_; simp only [List.setIfInBounds_toArray, List.set_cons_zero, List.set_cons_succ] at ht_; subst ht_
                    refine q_not 3 false rfl rfl rfl ?_
                    intro ts_ ht_; simp only [List.setIfInBounds_toArray, List.set_cons_zero, List.set_cons_succ] at ht_; subst ht_
                    refine q_not 3 false rfl rfl rfl ?_
                    intro ts_ ht_; simp only [List.setIfInBounds_toArray, List.set_cons_zero, List.set_cons_succ] at ht_; subst ht_
                    refine q_not 3 false rfl rfl rfl ?_
                    intro ts_ ht_; simp only [List.setIfInBounds_toArray, List.set_cons_zero, List.set_cons_succ] at ht_; subst ht_
                    refine q_not 3 false rfl rfl rfl ?_
                    intro ts_ ht_; simp only [List.setIfInBounds_toArray, List.set_cons_zero, List.set_cons_succ] at ht_; subst ht_
                    refine q_not 3 false rfl rfl rfl ?_
                    intro ts_ ht_; simp only [List.setIfInBounds_toArray, List.set_cons_zero, List.set_cons_succ] at ht_; subst ht_
                    refine q_not 3 false rfl rfl rfl ?_
                    intro ts_ ht_; simp only [List.setIfInBounds_toArray, List.set_cons_zero, List.set_cons_succ] at ht_; subst ht_
                    refine q_do (.bool false) (fun w'_ hc_ => by go_simp) rfl rfl ?_
                    intro ts_ ht_; simp only [List.setIfInBounds_toArray, List.set_cons_zero, List.set_cons_succ] at ht_; subst ht_
                    refine q_end ?_
                    rintro w8_ ⟨n_, rfl⟩
                    replace HL := hid (HL.out.trans (n_.below.mono HL.out.size))
                    generalize n_.world = w241 at *
                    clear n_ WR64 WR32
                    go_wp2_with fail
                    (try simp only [Act.put, List.setIfInBounds_toArray, List.set_cons_zero, List.set_cons_succ])
                    go_roundg k235
                    case measure => have := HK219.out; have := HK234.out; omega
                    case rel => exact ⟨wrap64 (x4_1 + 1), (by first | rfl | (simp; done) | (simp [*]; done)), H', (hid (by first | omega | (have := HK219.out; have := HK234.out; omega))), HL⟩
                  · rw [if_neg c237] at H
                    have c237b0 : (x3_0 == x4_1) = false := beq_eq_false_iff_ne.mpr c237
                    have c237b1 : (x3_0 != x4_1) = true := bne_iff_ne.mpr c237
                    have hc237 := hid c237
                    clear c237
                    by_cases c242 : 0 ≤ x4_1
                    · rw [if_pos c242] at H
                      have c242b0 : decide (0 ≤ x4_1) = true := decide_eq_true c242
                      have hc242 := hid c242
                      clear c242
                      by_cases c243 : 0 ≤ x3_0
                      · rw [if_pos c243] at H
                        have c243b0 : decide (0 ≤ x3_0) = true := decide_eq_true c243
                        have hc243 := hid c243
                        clear c243
                        by_cases c244 : x3_0 < (a0.length : Int)
                        · rw [if_pos c244] at H
                          have c244b0 : decide (x3_0 < (a0.length : Int)) = true := decide_eq_true c244
                          have hc244 := hid c244
                          clear c244
                          replace H := Option.bind_eq_some_iff.mp H
                          obtain ⟨t218, A245_, H⟩ := H
                          replace H : (if t218 = true then (some false) else (i_alfilref14_Apart.l1 k235 a0 x3_0 (wrap64 (x4_1 + 1)))) = some r1 := H
                          have A245 := hid A245_
                          clear A245_
                          cases t218 with
                          | true =>
                            rw [if_pos rfl] at H
                            obtain rfl := Option.some.inj H
                            clear H
                            go_wp2_with (first
                              | ((with_reducible refine gate_d (N := 18) rfl ?_); obtain ⟨A247, c248, hv249⟩ := (SP0.out.below HL.out).shape; rw [List.length_map] at hv249; refine ag_fix (.int .i64 (a0.length : Int)) (ex_len us22 _ _ _ _ hv249 _ rfl rfl) rfl ?_; clear hv249))
                            (try simp only [Act.put, List.setIfInBounds_toArray, List.set_cons_zero, List.set_cons_succ])
                            obtain ⟨ad216, c_28, hv_28, hc_28⟩ := Sl.get (l := a0) (f := Value.string) (SP0.out.below HL.out) ByteArray.empty (i := x4_1) hc242.out hc236.out
                            have HV_28 := hid hv_28
                            have HCad216 := hid hc_28
                            clear hv_28 hc_28
                            obtain ⟨ad217, c_32, hv_32, hc_32⟩ := Sl.get (l := a0) (f := Value.string) (SP0.out.below HL.out) ByteArray.empty (i := x3_0) hc243.out hc244.out
                            have HV_32 := hid hv_32
                            have HCad217 := hid hc_32
                            clear hv_32 hc_32
                            have WR64 := i64_w
                            have WR32 := i32_w
                            refine up_regionW (by kernel_rfl) (by kernel_rfl) ?_
                            refine q_do (.int .i64 x3_0) (fun w'_ hc_ => ex_mv (.tmp 3) (.inl rfl) _ rfl) rfl rfl ?_
                            intro ts_ ht_; simp only [List.setIfInBounds_toArray, List.set_cons_zero, List.set_cons_succ] at ht_; subst ht_
                            refine q_do (.int .i64 x4_1) (fun w'_ hc_ => ex_mv (.tmp 4) (.inl rfl) _ rfl) rfl rfl ?_
                            intro ts_ ht_; simp only [List.setIfInBounds_toArray, List.set_cons_zero, List.set_cons_succ] at ht_; subst ht_
                            refine q_do (.bool true) (fun w'_ hc_ => by go_simp) rfl rfl ?_
                            intro ts_ ht_; simp only [List.setIfInBounds_toArray, List.set_cons_zero, List.set_cons_succ] at ht_; subst ht_
                            refine q_do (.bool true) (fun w'_ hc_ => ex_mv (.tmp 24) (.inl rfl) _ rfl) rfl rfl ?_
                            intro ts_ ht_; simp only [List.setIfInBounds_toArray, List.set_cons_zero, List.set_cons_succ] at ht_; subst ht_
                            refine q_do (v0_) (fun w'_ hc_ => ex_mv (.tmp 0) (.inl rfl) _ rfl) rfl rfl ?_
                            intro ts_ ht_; simp only [List.setIfInBounds_toArray, List.set_cons_zero, List.set_cons_succ] at ht_; subst ht_
                            refine q_do (.int .i64 x4_1) (fun w'_ hc_ => ex_mv (.tmp 4) (.inl rfl) _ rfl) rfl rfl ?_
                            intro ts_ ht_; simp only [List.setIfInBounds_toArray, List.set_cons_zero, List.set_cons_succ] at ht_; subst ht_
                            refine q_do (.pointer (some (ad216.add x4_1.toNat))) (fun w'_ hc_ => by obtain ⟨n_, hn_⟩ := hc_; exact ex_sat _ _ x4_1 _ _ HV_28.out hc242.out hc236.out us22 sT9 _ _ rfl rfl rfl) rfl rfl ?_
                            intro ts_ ht_; simp only [List.setIfInBounds_toArray, List.set_cons_zero, List.set_cons_succ] at ht_; subst ht_
                            refine q_do (.string (nt a0 x4_1.toNat ByteArray.empty)) (fun w'_ hc_ => by obtain ⟨n_, hn_⟩ := hc_; exact ex_scell sT9 _ _ (by rw [hn_]; exact (n_.below.cell (World.block_lt_of_cell? _ _ HCad216.out)).trans HCad216.out) _ rfl rfl) rfl rfl ?_
                            intro ts_ ht_; simp only [List.setIfInBounds_toArray, List.set_cons_zero, List.set_cons_succ] at ht_; subst ht_
                            refine q_do (v0_) (fun w'_ hc_ => ex_mv (.tmp 0) (.inl rfl) _ rfl) rfl rfl ?_
                            intro ts_ ht_; simp only [List.setIfInBounds_toArray, List.set_cons_zero, List.set_cons_succ] at ht_; subst ht_
                            refine q_do (.int .i64 x3_0) (fun w'_ hc_ => ex_mv (.tmp 3) (.inl rfl) _ rfl) rfl rfl ?_
                            intro ts_ ht_; simp only [List.setIfInBounds_toArray, List.set_cons_zero, List.set_cons_succ] at ht_; subst ht_
                            refine q_do (.pointer (some (ad217.add x3_0.toNat))) (fun w'_ hc_ => by obtain ⟨n_, hn_⟩ := hc_; exact ex_sat _ _ x3_0 _ _ HV_32.out hc243.out hc244.out us22 sT9 _ _ rfl rfl rfl) rfl rfl ?_
                            intro ts_ ht_; simp only [List.setIfInBounds_toArray, List.set_cons_zero, List.set_cons_succ] at ht_; subst ht_
                            refine q_do (.string (nt a0 x3_0.toNat ByteArray.empty)) (fun w'_ hc_ => by obtain ⟨n_, hn_⟩ := hc_; exact ex_scell sT9 _ _ (by rw [hn_]; exact (n_.below.cell (World.block_lt_of_cell? _ _ HCad217.out)).trans HCad217.out) _ rfl rfl) rfl rfl ?_
                            intro ts_ ht_; simp only [List.setIfInBounds_toArray, List.set_cons_zero, List.set_cons_succ] at ht_; subst ht_
                            refine q_call (.bool true) 32 #[.string (nt a0 x4_1.toNat ByteArray.empty), .string (nt a0 x3_0.toNat ByteArray.empty)] (fun w'_ => by go_simp) (fun w'_ hc_ => (i_alfilref14_begins.calls (nt a0 x4_1.toNat ByteArray.empty) (nt a0 x3_0.toNat ByteArray.empty) true _ A245.out).mono fun e_ w2_ h_ => ⟨h_.1, up_same hc_ h_.2⟩) rfl rfl ?_
                            intro ts_ ht_; simp only [List.setIfInBounds_toArray, List.set_cons_zero, List.set_cons_succ] at ht_; subst ht_
                            refine q_do (.bool true) (fun w'_ hc_ => by go_simp) rfl rfl ?_
                            intro ts_ ht_; simp only [List.setIfInBounds_toArray, List.set_cons_zero, List.set_cons_succ] at ht_; subst ht_
                            refine q_end ?_
                            rintro w8_ ⟨n_, rfl⟩
                            replace HL := hid (HL.out.trans (n_.below.mono HL.out.size))
                            generalize n_.world = w250 at *
                            clear n_ WR64 WR32
                            go_wp2_with fail
                            (try simp only [Act.put, List.setIfInBounds_toArray, List.set_cons_zero, List.set_cons_succ])
                            go_ret
                            exact ⟨by first | rfl | (simp; done) | (simp [*]; done), HL.out⟩
                          | false =>
                            rw [if_neg (show ¬ (false = true) by decide)] at H
                            have H' := hid H
                            clear H
                            go_wp2_with (first
                              | ((with_reducible refine gate_d (N := 18) rfl ?_); obtain ⟨A251, c252, hv253⟩ := (SP0.out.below HL.out).shape; rw [List.length_map] at hv253; refine ag_fix (.int .i64 (a0.length : Int)) (ex_len us22 _ _ _ _ hv253 _ rfl rfl) rfl ?_; clear hv253))
                            (try simp only [Act.put, List.setIfInBounds_toArray, List.set_cons_zero, List.set_cons_succ])
                            obtain ⟨ad216, c_28, hv_28, hc_28⟩ := Sl.get (l := a0) (f := Value.string) (SP0.out.below HL.out) ByteArray.empty (i := x4_1) hc242.out hc236.out
                            have HV_28 := hid hv_28
                            have HCad216 := hid hc_28
                            clear hv_28 hc_28
                            obtain ⟨ad217, c_32, hv_32, hc_32⟩ := Sl.get (l := a0) (f := Value.string) (SP0.out.below HL.out) ByteArray.empty (i := x3_0) hc243.out hc244.out
                            have HV_32 := hid hv_32
                            have HCad217 := hid hc_32
                            clear hv_32 hc_32
                            have WR64 := i64_w
                            have WR32 := i32_w
                            refine up_regionW (by kernel_rfl) (by kernel_rfl) ?_
                            refine q_do (.int .i64 x3_0) (fun w'_ hc_ => ex_mv (.tmp 3) (.inl rfl) _ rfl) rfl rfl ?_
                            intro ts_ ht_; simp only [List.setIfInBounds_toArray, List.set_cons_zero, List.set_cons_succ] at ht_; subst ht_
                            refine q_do (.int .i64 x4_1) (fun w'_ hc_ => ex_mv (.tmp 4) (.inl rfl) _ rfl) rfl rfl ?_
                            intro ts_ ht_; simp only [List.setIfInBounds_toArray, List.set_cons_zero, List.set_cons_succ] at ht_; subst ht_
                            refine q_do (.bool true) (fun w'_ hc_ => by go_simp) rfl rfl ?_
                            intro ts_ ht_; simp only [List.setIfInBounds_toArray, List.set_cons_zero, List.set_cons_succ] at ht_; subst ht_
                            refine q_do (.bool true) (fun w'_ hc_ => ex_mv (.tmp 24) (.inl rfl) _ rfl) rfl rfl ?_
                            intro ts_ ht_; simp only [List.setIfInBounds_toArray, List.set_cons_zero, List.set_cons_succ] at ht_; subst ht_
                            refine q_do (v0_) (fun w'_ hc_ => ex_mv (.tmp 0) (.inl rfl) _ rfl) rfl rfl ?_
                            intro ts_ ht_; simp only [List.setIfInBounds_toArray, List.set_cons_zero, List.set_cons_succ] at ht_; subst ht_
                            refine q_do (.int .i64 x4_1) (fun w'_ hc_ => ex_mv (.tmp 4) (.inl rfl) _ rfl) rfl rfl ?_
                            intro ts_ ht_; simp only [List.setIfInBounds_toArray, List.set_cons_zero, List.set_cons_succ] at ht_; subst ht_
                            refine q_do (.pointer (some (ad216.add x4_1.toNat))) (fun w'_ hc_ => by obtain ⟨n_, hn_⟩ := hc_; exact ex_sat _ _ x4_1 _ _ HV_28.out hc242.out hc236.out us22 sT9 _ _ rfl rfl rfl) rfl rfl ?_
                            intro ts_ ht_; simp only [List.setIfInBounds_toArray, List.set_cons_zero, List.set_cons_succ] at ht_; subst ht_
                            refine q_do (.string (nt a0 x4_1.toNat ByteArray.empty)) (fun w'_ hc_ => by obtain ⟨n_, hn_⟩ := hc_; exact ex_scell sT9 _ _ (by rw [hn_]; exact (n_.below.cell (World.block_lt_of_cell? _ _ HCad216.out)).trans HCad216.out) _ rfl rfl) rfl rfl ?_
                            intro ts_ ht_; simp only [List.setIfInBounds_toArray, List.set_cons_zero, List.set_cons_succ] at ht_; subst ht_
                            refine q_do (v0_) (fun w'_ hc_ => ex_mv (.tmp 0) (.inl rfl) _ rfl) rfl rfl ?_
                            intro ts_ ht_; simp only [List.setIfInBounds_toArray, List.set_cons_zero, List.set_cons_succ] at ht_; subst ht_
                            refine q_do (.int .i64 x3_0) (fun w'_ hc_ => ex_mv (.tmp 3) (.inl rfl) _ rfl) rfl rfl ?_
                            intro ts_ ht_; simp only [List.setIfInBounds_toArray, List.set_cons_zero, List.set_cons_succ] at ht_; subst ht_
                            refine q_do (.pointer (some (ad217.add x3_0.toNat))) (fun w'_ hc_ => by obtain ⟨n_, hn_⟩ := hc_; exact ex_sat _ _ x3_0 _ _ HV_32.out hc243.out hc244.out us22 sT9 _ _ rfl rfl rfl) rfl rfl ?_
                            intro ts_ ht_; simp only [List.setIfInBounds_toArray, List.set_cons_zero, List.set_cons_succ] at ht_; subst ht_
                            refine q_do (.string (nt a0 x3_0.toNat ByteArray.empty)) (fun w'_ hc_ => by obtain ⟨n_, hn_⟩ := hc_; exact ex_scell sT9 _ _ (by rw [hn_]; exact (n_.below.cell (World.block_lt_of_cell? _ _ HCad217.out)).trans HCad217.out) _ rfl rfl) rfl rfl ?_
                            intro ts_ ht_; simp only [List.setIfInBounds_toArray, List.set_cons_zero, List.set_cons_succ] at ht_; subst ht_
                            refine q_call (.bool false) 32 #[.string (nt a0 x4_1.toNat ByteArray.empty), .string (nt a0 x3_0.toNat ByteArray.empty)] (fun w'_ => by go_simp) (fun w'_ hc_ => (i_alfilref14_begins.calls (nt a0 x4_1.toNat ByteArray.empty) (nt a0 x3_0.toNat ByteArray.empty) false _ A245.out).mono fun e_ w2_ h_ => ⟨h_.1, up_same hc_ h_.2⟩) rfl rfl ?_
                            intro ts_ ht_; simp only [List.setIfInBounds_toArray, List.set_cons_zero, List.set_cons_succ] at ht_; subst ht_
                            refine q_do (.bool false) (fun w'_ hc_ => by go_simp) rfl rfl ?_
                            intro ts_ ht_; simp only [List.setIfInBounds_toArray, List.set_cons_zero, List.set_cons_succ] at ht_; subst ht_
                            refine q_end ?_
                            rintro w8_ ⟨n_, rfl⟩
                            replace HL := hid (HL.out.trans (n_.below.mono HL.out.size))
                            generalize n_.world = w254 at *
                            clear n_ WR64 WR32
                            go_wp2_with fail
                            (try simp only [Act.put, List.setIfInBounds_toArray, List.set_cons_zero, List.set_cons_succ])
                            go_roundg k235
                            case measure => have := HK219.out; have := HK234.out; omega
                            case rel => exact ⟨wrap64 (x4_1 + 1), (by first | rfl | (simp; done) | (simp [*]; done)), H', (hid (by first | omega | (have := HK219.out; have := HK234.out; omega))), HL⟩
                        · rw [if_neg c244] at H
                          exact absurd H (by simp)
                      · rw [if_neg c243] at H
                        exact absurd H (by simp)
                    · rw [if_neg c242] at H
                      exact absurd H (by simp)
                · rw [if_neg c236] at H
                  have c236b0 : decide (x4_1 < (a0.length : Int)) = false := decide_eq_false c236
                  have hc236 := hid c236
                  clear c236
                  have H' := hid H
                  clear H
                  go_wp2_with (first
                    | ((with_reducible refine gate_d (N := 18) rfl ?_); obtain ⟨A255, c256, hv257⟩ := (SP0.out.below HL.out).shape; rw [List.length_map] at hv257; refine ag_fix (.int .i64 (a0.length : Int)) (ex_len us22 _ _ _ _ hv257 _ rfl rfl) rfl ?_; clear hv257))
                  (try simp only [Act.put, List.setIfInBounds_toArray, List.set_cons_zero, List.set_cons_succ])
                  go_roundg k235
                  case measure => have := HK219.out; have := HK234.out; omega
                  case rel => exact ⟨wrap64 (x3_0 + 1), (by first | rfl | (simp; done) | (simp [*]; done)), H', (hid (by first | omega | (have := HK219.out; have := HK234.out; omega))), HL⟩
        · rw [if_neg c222] at H
          exact absurd H (by simp)
      · rw [if_neg c221] at H
        have c221b0 : decide (x3_0 < (a0.length : Int)) = false := decide_eq_false c221
        have hc221 := hid c221
        clear c221
        obtain rfl := Option.some.inj H
        clear H
        go_wp2_with (first
          | ((with_reducible refine gate_d (N := 7) rfl ?_); obtain ⟨A258, c259, hv260⟩ := (SP0.out.below HL.out).shape; rw [List.length_map] at hv260; refine ag_fix (.int .i64 (a0.length : Int)) (ex_len us22 _ _ _ _ hv260 _ rfl rfl) rfl ?_; clear hv260)
          | ((with_reducible refine gate_d (N := 37) rfl ?_); obtain ⟨A261, c262, hv263⟩ := (SP0.out.below HL.out).shape; rw [List.length_map] at hv263; refine ag_fix (.int .i64 (a0.length : Int)) (ex_len us22 _ _ _ _ hv263 _ rfl rfl) rfl ?_; clear hv263))
        (try simp only [Act.put, List.setIfInBounds_toArray, List.set_cons_zero, List.set_cons_succ])
        go_ret
        exact ⟨by first | rfl | (simp; done) | (simp [*]; done), HL.out⟩
/-! i_alfilref14_OneOf: function 13 -/
def i_alfilref14_OneOf.l0 : Nat → ByteArray → Int → List ByteArray → Int → Int → Option (Int × Int × Int)
  | 0, _, _, _, _, _ => none
  | k + 1, a0, a1, a2, x7_0, x8_0 => if x8_0 < (a2.length : Int) then (if 0 ≤ x8_0 then ((i_alfilref14_fits.f k a0 a1 (nt a2 x8_0.toNat ByteArray.empty)).bind fun t271 => (if t271 = ((nt a2 x8_0.toNat ByteArray.empty).size : Int) then (some (wrap64 (a1 + t271), x8_0, 0)) else (if t271 > x7_0 then (i_alfilref14_OneOf.l0 k a0 a1 a2 t271 (wrap64 (x8_0 + 1))) else (i_alfilref14_OneOf.l0 k a0 a1 a2 x7_0 (wrap64 (x8_0 + 1)))))) else (none)) else (if (wrap64 (a1 + x7_0)) = (a0.size : Int) then (some (wrap64 (a1 + x7_0), 0, 1)) else (some (wrap64 (a1 + x7_0), 0, 2)))
def i_alfilref14_OneOf.f (k : Nat) (a0 : ByteArray) (a1 : Int) (a2 : List ByteArray) : Option (Int × Int × Int) := (i_alfilref14_There.f a0 a1).bind fun t265 => (if t265 = true then ((i_alfilref14_Apart.f k a2).bind fun t266 => (if t266 = true then (i_alfilref14_OneOf.l0 k a0 a1 a2 0 0) else (some (0, 0, 5)))) else (some (0, 0, 5)))
set_option maxHeartbeats 40000000 in
set_option maxRecDepth 100000 in
theorem i_alfilref14_OneOf.calls (k : Nat) (a0 : ByteArray) (a1 : Int) (v2_ : Value) (a2 : List ByteArray) (r1 : Int) (r2 : Int) (r3 : Int) (w : World) (hs2 : Sl w v2_ (a2.map Value.string)) (h : i_alfilref14_OneOf.f k a0 a1 a2 = some (r1, r2, r3)) :
    Calls Try.prog 13 #[.string a0, .int .i64 a1, v2_] w fun e w' => e = .returned (.agg #[.int .i64 r1, .int .i64 r2, .int .i64 r3]) ∧ Below w.heap.size w w' := by
  have HL := hid (Below.refl w.heap.size w)
  have SP2 := hid hs2
  clear hs2
  have H : ((i_alfilref14_There.f a0 a1).bind fun t265 => (if t265 = true then ((i_alfilref14_Apart.f k a2).bind fun t266 => (if t266 = true then (i_alfilref14_OneOf.l0 k a0 a1 a2 0 0) else (some (0, 0, 5)))) else (some (0, 0, 5)))) = some (r1, r2, r3) := h
  clear h
  replace H := Option.bind_eq_some_iff.mp H
  obtain ⟨t265, A273_, H⟩ := H
  replace H : (if t265 = true then ((i_alfilref14_Apart.f k a2).bind fun t266 => (if t266 = true then (i_alfilref14_OneOf.l0 k a0 a1 a2 0 0) else (some (0, 0, 5)))) else (some (0, 0, 5))) = some (r1, r2, r3) := H
  have A273 := hid A273_
  clear A273_
  cases t265 with
  | true =>
    rw [if_pos rfl] at H
    replace H := Option.bind_eq_some_iff.mp H
    obtain ⟨t266, A275_, H⟩ := H
    replace H : (if t266 = true then (i_alfilref14_OneOf.l0 k a0 a1 a2 0 0) else (some (0, 0, 5))) = some (r1, r2, r3) := H
    have A275 := hid A275_
    clear A275_
    cases t266 with
    | true =>
      rw [if_pos rfl] at H
      have H' := hid H
      clear H
      go_enter Try.func13, Try.ntmps13
      have k278 := True.intro
      have k279 := True.intro
      go_wp2_with (first
        | ((with_reducible refine gate_d (N := 6) rfl ?_); obtain ⟨gb264, hgb264⟩ : ∃ g_, w.heap.size = g_ := ⟨_, rfl⟩; refine ag_alloc aT26 gb264 hgb264 rfl rfl ?_; intro w277 hb_ hB_ hs_; have GEb264 : Hid (w.heap.size ≤ gb264) := hid (by have := HL.out.size; omega); replace HL := hid (HL.out.trans (hb_.mono GEb264.out)); have BKb264 := hid hB_; clear hb_ hB_ hs_ hgb264)
        | (go_at_call 29; clear k278; refine (i_alfilref14_There.calls a0 a1 true _ A273.out).mono ?_; rintro e_ w' ⟨rfl, rfl⟩)
        | (go_at_call 16; clear k279; refine (i_alfilref14_Apart.calls k (v2_) a2 true _ (SP2.out.below HL.out) A275.out).mono ?_; rintro e_ w280 ⟨rfl, hb_⟩; replace BKb264 := hid (BKb264.out.below hb_ BKb264.out.lt); replace HL := hid (HL.out.trans (hb_.mono HL.out.size)); clear hb_))
      (try simp only [Act.put, List.setIfInBounds_toArray, List.set_cons_zero, List.set_cons_succ])
      go_loopg [7, 8] k (fun kq v7 v8 w' => ∃ (x7_0 : Int) (x8_0 : Int), v7 = .int .i64 x7_0 ∧ v8 = .int .i64 x8_0 ∧ Hid (i_alfilref14_OneOf.l0 kq a0 a1 a2 x7_0 x8_0 = some (r1, r2, r3)) ∧ Hid (kq ≤ k) ∧ Hid (Blk w' gb264 26 #[.int .i64 0, .int .i64 0, .int .i64 0]) ∧ Hid (Below w.heap.size w w'))
      case atStart => exact ⟨(0 : Int), (0 : Int), (by first | rfl | (simp; done) | (simp [*]; done)), (by first | rfl | (simp; done) | (simp [*]; done)), H', (hid (by first | omega | (omega))), (hid (by exact BKb264.out)), HL⟩
      case round =>
        clear H'
        clear HL BKb264
        obtain ⟨x7_0, x8_0, rfl, rfl, HA, HK281, BKb264, HL⟩ := hrel
        cases gk with
        | zero => exact absurd HA.out (by simp [i_alfilref14_OneOf.l0])
        | succ k282 =>
          have H := HA.out
          clear HA
          simp only [i_alfilref14_OneOf.l0] at H
          by_cases c283 : x8_0 < (a2.length : Int)
          · rw [if_pos c283] at H
            have c283b0 : decide (x8_0 < (a2.length : Int)) = true := decide_eq_true c283
            have hc283 := hid c283
            clear c283
            by_cases c284 : 0 ≤ x8_0
            · rw [if_pos c284] at H
              have c284b0 : decide (0 ≤ x8_0) = true := decide_eq_true c284
              have hc284 := hid c284
              clear c284
              replace H := Option.bind_eq_some_iff.mp H
              obtain ⟨t271, A285_, H⟩ := H
              replace H : (if t271 = ((nt a2 x8_0.toNat ByteArray.empty).size : Int) then (some (wrap64 (a1 + t271), x8_0, 0)) else (if t271 > x7_0 then (i_alfilref14_OneOf.l0 k282 a0 a1 a2 t271 (wrap64 (x8_0 + 1))) else (i_alfilref14_OneOf.l0 k282 a0 a1 a2 x7_0 (wrap64 (x8_0 + 1))))) = some (r1, r2, r3) := H
              have A285 := hid A285_
              clear A285_
              by_cases c286 : t271 = ((nt a2 x8_0.toNat ByteArray.empty).size : Int)
              · rw [if_pos c286] at H
                have c286b0 : (t271 == ((nt a2 x8_0.toNat ByteArray.empty).size : Int)) = true := beq_iff_eq.mpr c286
                have c286b1 : (t271 != ((nt a2 x8_0.toNat ByteArray.empty).size : Int)) = false := bne_eq_false_iff_eq.mpr c286
                have hc286 := hid c286
                clear c286
                simp only [Option.some.injEq, Prod.mk.injEq] at H
                obtain ⟨rfl, rfl, rfl⟩ := H
                have k292 := True.intro
                go_wp2_with (first
                  | ((with_reducible refine gate_d (N := 22) rfl ?_); obtain ⟨A287, c288, hv289⟩ := (SP2.out.below HL.out).shape; rw [List.length_map] at hv289; refine ag_fix (.int .i64 (a2.length : Int)) (ex_len us22 _ _ _ _ hv289 _ rfl rfl) rfl ?_; clear hv289)
                  | ((with_reducible refine gate_d (N := 30) rfl ?_); obtain ⟨ad270, c290, hv291, HCad270_⟩ := Sl.get (l := a2) (f := Value.string) (SP2.out.below HL.out) ByteArray.empty (i := x8_0) hc284.out hc283.out; have HCad270 := hid HCad270_; clear HCad270_; refine ag_fix (.pointer (some (ad270.add x8_0.toNat))) (ex_sat _ _ x8_0 _ _ hv291 hc284.out hc283.out us22 sT9 _ _ rfl rfl rfl) rfl ?_; clear hv291)
                  | ((with_reducible refine gate_d (N := 31) rfl ?_); refine ag_fix (.string (nt a2 x8_0.toNat ByteArray.empty)) (ex_scell sT9 _ _ HCad270.out _ rfl rfl) rfl ?_)
                  | (go_at_call 30; clear k292; refine (i_alfilref14_fits.calls k282 a0 a1 (nt a2 x8_0.toNat ByteArray.empty) t271 _ A285.out).mono ?_; rintro e_ w293 ⟨rfl, hb_⟩; replace BKb264 := hid (BKb264.out.below hb_ BKb264.out.lt); replace HL := hid (HL.out.trans (hb_.mono HL.out.size)); clear hb_)
                  | ((with_reducible refine gate_d (N := 36) rfl ?_); obtain ⟨ad272, c294, hv295, HCad272_⟩ := Sl.get (l := a2) (f := Value.string) (SP2.out.below HL.out) ByteArray.empty (i := x8_0) hc284.out hc283.out; have HCad272 := hid HCad272_; clear HCad272_; refine ag_fix (.pointer (some (ad272.add x8_0.toNat))) (ex_sat _ _ x8_0 _ _ hv295 hc284.out hc283.out us22 sT9 _ _ rfl rfl rfl) rfl ?_; clear hv295)
                  | ((with_reducible refine gate_d (N := 37) rfl ?_); refine ag_fix (.string (nt a2 x8_0.toNat ByteArray.empty)) (ex_scell sT9 _ _ HCad272.out _ rfl rfl) rfl ?_)
                  | ((with_reducible refine gate_d (N := 44) rfl ?_); refine ag_build (.agg #[.int .i64 (wrap64 (a1 + t271)), .int .i64 x8_0, .int .i64 0]) _ rfl rfl ?_ ?_; (intro ww_; simp only [List.map_toArray, List.map_cons, List.map_nil]; kernel_rfl))
                  | ((with_reducible refine gate_s (t := 26) (p := 6) rfl ?_); refine ag_store aT26 gb264 0 #[.int .i64 0, .int .i64 0, .int .i64 0] #[.int .i64 (wrap64 (a1 + t271)), .int .i64 x8_0, .int .i64 0] #[.int .i64 (wrap64 (a1 + t271)), .int .i64 x8_0, .int .i64 0] BKb264.out rfl (by simp) (by intro v_ hv_; simp at hv_; rcases hv_ with rfl | rfl | rfl <;> first | rfl) rfl rfl _ _ rfl rfl rfl ?_; intro w296 ho_ hB_; replace HL := hid (ho_.below HL.out GEb264.out); replace BKb264 := hid hB_; clear ho_ hB_))
                (try simp only [Act.put, List.setIfInBounds_toArray, List.set_cons_zero, List.set_cons_succ])
                refine bodyPost_ret (v := .agg #[.int .i64 (wrap64 (a1 + t271)), .int .i64 x8_0, .int .i64 0]) (res_c aT26 rfl _ gb264 #[.int .i64 (wrap64 (a1 + t271)), .int .i64 x8_0, .int .i64 0] BKb264.out rfl rfl) rfl ?_
                exact ⟨by first | rfl | (simp; done) | (simp [*]; done), HL.out⟩
              · rw [if_neg c286] at H
                have c286b0 : (t271 == ((nt a2 x8_0.toNat ByteArray.empty).size : Int)) = false := beq_eq_false_iff_ne.mpr c286
                have c286b1 : (t271 != ((nt a2 x8_0.toNat ByteArray.empty).size : Int)) = true := bne_iff_ne.mpr c286
                have hc286 := hid c286
                clear c286
                by_cases c297 : t271 > x7_0
                · rw [if_pos c297] at H
                  have c297b0 : decide (x7_0 < t271) = true := decide_eq_true c297
                  have hc297 := hid c297
                  clear c297
                  have H' := hid H
                  clear H
                  have k303 := True.intro
                  go_wp2_with (first
                    | ((with_reducible refine gate_d (N := 22) rfl ?_); obtain ⟨A298, c299, hv300⟩ := (SP2.out.below HL.out).shape; rw [List.length_map] at hv300; refine ag_fix (.int .i64 (a2.length : Int)) (ex_len us22 _ _ _ _ hv300 _ rfl rfl) rfl ?_; clear hv300)
                    | ((with_reducible refine gate_d (N := 30) rfl ?_); obtain ⟨ad270, c301, hv302, HCad270_⟩ := Sl.get (l := a2) (f := Value.string) (SP2.out.below HL.out) ByteArray.empty (i := x8_0) hc284.out hc283.out; have HCad270 := hid HCad270_; clear HCad270_; refine ag_fix (.pointer (some (ad270.add x8_0.toNat))) (ex_sat _ _ x8_0 _ _ hv302 hc284.out hc283.out us22 sT9 _ _ rfl rfl rfl) rfl ?_; clear hv302)
                    | ((with_reducible refine gate_d (N := 31) rfl ?_); refine ag_fix (.string (nt a2 x8_0.toNat ByteArray.empty)) (ex_scell sT9 _ _ HCad270.out _ rfl rfl) rfl ?_)
                    | (go_at_call 30; clear k303; refine (i_alfilref14_fits.calls k282 a0 a1 (nt a2 x8_0.toNat ByteArray.empty) t271 _ A285.out).mono ?_; rintro e_ w304 ⟨rfl, hb_⟩; replace BKb264 := hid (BKb264.out.below hb_ BKb264.out.lt); replace HL := hid (HL.out.trans (hb_.mono HL.out.size)); clear hb_)
                    | ((with_reducible refine gate_d (N := 36) rfl ?_); obtain ⟨ad272, c305, hv306, HCad272_⟩ := Sl.get (l := a2) (f := Value.string) (SP2.out.below HL.out) ByteArray.empty (i := x8_0) hc284.out hc283.out; have HCad272 := hid HCad272_; clear HCad272_; refine ag_fix (.pointer (some (ad272.add x8_0.toNat))) (ex_sat _ _ x8_0 _ _ hv306 hc284.out hc283.out us22 sT9 _ _ rfl rfl rfl) rfl ?_; clear hv306)
                    | ((with_reducible refine gate_d (N := 37) rfl ?_); refine ag_fix (.string (nt a2 x8_0.toNat ByteArray.empty)) (ex_scell sT9 _ _ HCad272.out _ rfl rfl) rfl ?_))
                  (try simp only [Act.put, List.setIfInBounds_toArray, List.set_cons_zero, List.set_cons_succ])
                  go_roundg k282
                  case measure => have := HK281.out; omega
                  case rel => exact ⟨t271, wrap64 (x8_0 + 1), (by first | rfl | (simp; done) | (simp [*]; done)), (by first | rfl | (simp; done) | (simp [*]; done)), H', (hid (by first | omega | (have := HK281.out; omega))), (hid (by exact BKb264.out)), HL⟩
                · rw [if_neg c297] at H
                  have c297b0 : decide (x7_0 < t271) = false := decide_eq_false c297
                  have hc297 := hid c297
                  clear c297
                  have H' := hid H
                  clear H
                  have k312 := True.intro
                  go_wp2_with (first
                    | ((with_reducible refine gate_d (N := 22) rfl ?_); obtain ⟨A307, c308, hv309⟩ := (SP2.out.below HL.out).shape; rw [List.length_map] at hv309; refine ag_fix (.int .i64 (a2.length : Int)) (ex_len us22 _ _ _ _ hv309 _ rfl rfl) rfl ?_; clear hv309)
                    | ((with_reducible refine gate_d (N := 30) rfl ?_); obtain ⟨ad270, c310, hv311, HCad270_⟩ := Sl.get (l := a2) (f := Value.string) (SP2.out.below HL.out) ByteArray.empty (i := x8_0) hc284.out hc283.out; have HCad270 := hid HCad270_; clear HCad270_; refine ag_fix (.pointer (some (ad270.add x8_0.toNat))) (ex_sat _ _ x8_0 _ _ hv311 hc284.out hc283.out us22 sT9 _ _ rfl rfl rfl) rfl ?_; clear hv311)
                    | ((with_reducible refine gate_d (N := 31) rfl ?_); refine ag_fix (.string (nt a2 x8_0.toNat ByteArray.empty)) (ex_scell sT9 _ _ HCad270.out _ rfl rfl) rfl ?_)
                    | (go_at_call 30; clear k312; refine (i_alfilref14_fits.calls k282 a0 a1 (nt a2 x8_0.toNat ByteArray.empty) t271 _ A285.out).mono ?_; rintro e_ w313 ⟨rfl, hb_⟩; replace BKb264 := hid (BKb264.out.below hb_ BKb264.out.lt); replace HL := hid (HL.out.trans (hb_.mono HL.out.size)); clear hb_)
                    | ((with_reducible refine gate_d (N := 36) rfl ?_); obtain ⟨ad272, c314, hv315, HCad272_⟩ := Sl.get (l := a2) (f := Value.string) (SP2.out.below HL.out) ByteArray.empty (i := x8_0) hc284.out hc283.out; have HCad272 := hid HCad272_; clear HCad272_; refine ag_fix (.pointer (some (ad272.add x8_0.toNat))) (ex_sat _ _ x8_0 _ _ hv315 hc284.out hc283.out us22 sT9 _ _ rfl rfl rfl) rfl ?_; clear hv315)
                    | ((with_reducible refine gate_d (N := 37) rfl ?_); refine ag_fix (.string (nt a2 x8_0.toNat ByteArray.empty)) (ex_scell sT9 _ _ HCad272.out _ rfl rfl) rfl ?_))
                  (try simp only [Act.put, List.setIfInBounds_toArray, List.set_cons_zero, List.set_cons_succ])
                  go_roundg k282
                  case measure => have := HK281.out; omega
                  case rel => exact ⟨x7_0, wrap64 (x8_0 + 1), (by first | rfl | (simp; done) | (simp [*]; done)), (by first | rfl | (simp; done) | (simp [*]; done)), H', (hid (by first | omega | (have := HK281.out; omega))), (hid (by exact BKb264.out)), HL⟩
            · rw [if_neg c284] at H
              exact absurd H (by simp)
          · rw [if_neg c283] at H
            have c283b0 : decide (x8_0 < (a2.length : Int)) = false := decide_eq_false c283
            have hc283 := hid c283
            clear c283
            by_cases c316 : (wrap64 (a1 + x7_0)) = (a0.size : Int)
            · rw [if_pos c316] at H
              have c316b0 : ((wrap64 (a1 + x7_0)) == (a0.size : Int)) = true := beq_iff_eq.mpr c316
              have c316b1 : ((wrap64 (a1 + x7_0)) != (a0.size : Int)) = false := bne_eq_false_iff_eq.mpr c316
              have hc316 := hid c316
              clear c316
              simp only [Option.some.injEq, Prod.mk.injEq] at H
              obtain ⟨rfl, rfl, rfl⟩ := H
              go_wp2_with (first
                | ((with_reducible refine gate_d (N := 22) rfl ?_); obtain ⟨A317, c318, hv319⟩ := (SP2.out.below HL.out).shape; rw [List.length_map] at hv319; refine ag_fix (.int .i64 (a2.length : Int)) (ex_len us22 _ _ _ _ hv319 _ rfl rfl) rfl ?_; clear hv319)
                | ((with_reducible refine gate_d (N := 58) rfl ?_); refine ag_build (.agg #[.int .i64 (wrap64 (a1 + x7_0)), .int .i64 0, .int .i64 1]) _ rfl rfl ?_ ?_; (intro ww_; simp only [List.map_toArray, List.map_cons, List.map_nil]; kernel_rfl))
                | ((with_reducible refine gate_s (t := 26) (p := 6) rfl ?_); refine ag_store aT26 gb264 0 #[.int .i64 0, .int .i64 0, .int .i64 0] #[.int .i64 (wrap64 (a1 + x7_0)), .int .i64 0, .int .i64 1] #[.int .i64 (wrap64 (a1 + x7_0)), .int .i64 0, .int .i64 1] BKb264.out rfl (by simp) (by intro v_ hv_; simp at hv_; rcases hv_ with rfl | rfl | rfl <;> first | rfl) rfl rfl _ _ rfl rfl rfl ?_; intro w320 ho_ hB_; replace HL := hid (ho_.below HL.out GEb264.out); replace BKb264 := hid hB_; clear ho_ hB_))
              (try simp only [Act.put, List.setIfInBounds_toArray, List.set_cons_zero, List.set_cons_succ])
              refine bodyPost_ret (v := .agg #[.int .i64 (wrap64 (a1 + x7_0)), .int .i64 0, .int .i64 1]) (res_c aT26 rfl _ gb264 #[.int .i64 (wrap64 (a1 + x7_0)), .int .i64 0, .int .i64 1] BKb264.out rfl rfl) rfl ?_
              exact ⟨by first | rfl | (simp; done) | (simp [*]; done), HL.out⟩
            · rw [if_neg c316] at H
              have c316b0 : ((wrap64 (a1 + x7_0)) == (a0.size : Int)) = false := beq_eq_false_iff_ne.mpr c316
              have c316b1 : ((wrap64 (a1 + x7_0)) != (a0.size : Int)) = true := bne_iff_ne.mpr c316
              have hc316 := hid c316
              clear c316
              simp only [Option.some.injEq, Prod.mk.injEq] at H
              obtain ⟨rfl, rfl, rfl⟩ := H
              go_wp2_with (first
                | ((with_reducible refine gate_d (N := 22) rfl ?_); obtain ⟨A321, c322, hv323⟩ := (SP2.out.below HL.out).shape; rw [List.length_map] at hv323; refine ag_fix (.int .i64 (a2.length : Int)) (ex_len us22 _ _ _ _ hv323 _ rfl rfl) rfl ?_; clear hv323)
                | ((with_reducible refine gate_d (N := 62) rfl ?_); refine ag_build (.agg #[.int .i64 (wrap64 (a1 + x7_0)), .int .i64 0, .int .i64 2]) _ rfl rfl ?_ ?_; (intro ww_; simp only [List.map_toArray, List.map_cons, List.map_nil]; kernel_rfl))
                | ((with_reducible refine gate_s (t := 26) (p := 6) rfl ?_); refine ag_store aT26 gb264 0 #[.int .i64 0, .int .i64 0, .int .i64 0] #[.int .i64 (wrap64 (a1 + x7_0)), .int .i64 0, .int .i64 2] #[.int .i64 (wrap64 (a1 + x7_0)), .int .i64 0, .int .i64 2] BKb264.out rfl (by simp) (by intro v_ hv_; simp at hv_; rcases hv_ with rfl | rfl | rfl <;> first | rfl) rfl rfl _ _ rfl rfl rfl ?_; intro w324 ho_ hB_; replace HL := hid (ho_.below HL.out GEb264.out); replace BKb264 := hid hB_; clear ho_ hB_))
              (try simp only [Act.put, List.setIfInBounds_toArray, List.set_cons_zero, List.set_cons_succ])
              refine bodyPost_ret (v := .agg #[.int .i64 (wrap64 (a1 + x7_0)), .int .i64 0, .int .i64 2]) (res_c aT26 rfl _ gb264 #[.int .i64 (wrap64 (a1 + x7_0)), .int .i64 0, .int .i64 2] BKb264.out rfl rfl) rfl ?_
              exact ⟨by first | rfl | (simp; done) | (simp [*]; done), HL.out⟩
    | false =>
      rw [if_neg (show ¬ (false = true) by decide)] at H
      simp only [Option.some.injEq, Prod.mk.injEq] at H
      obtain ⟨rfl, rfl, rfl⟩ := H
      go_enter Try.func13, Try.ntmps13
      have k326 := True.intro
      have k327 := True.intro
      go_wp2_with (first
        | ((with_reducible refine gate_d (N := 6) rfl ?_); obtain ⟨gb264, hgb264⟩ : ∃ g_, w.heap.size = g_ := ⟨_, rfl⟩; refine ag_alloc aT26 gb264 hgb264 rfl rfl ?_; intro w325 hb_ hB_ hs_; have GEb264 : Hid (w.heap.size ≤ gb264) := hid (by have := HL.out.size; omega); replace HL := hid (HL.out.trans (hb_.mono GEb264.out)); have BKb264 := hid hB_; clear hb_ hB_ hs_ hgb264)
        | (go_at_call 29; clear k326; refine (i_alfilref14_There.calls a0 a1 true _ A273.out).mono ?_; rintro e_ w' ⟨rfl, rfl⟩)
        | (go_at_call 16; clear k327; refine (i_alfilref14_Apart.calls k (v2_) a2 false _ (SP2.out.below HL.out) A275.out).mono ?_; rintro e_ w328 ⟨rfl, hb_⟩; replace BKb264 := hid (BKb264.out.below hb_ BKb264.out.lt); replace HL := hid (HL.out.trans (hb_.mono HL.out.size)); clear hb_)
        | ((with_reducible refine gate_d (N := 19) rfl ?_); refine ag_build (.agg #[.int .i64 0, .int .i64 0, .int .i64 5]) _ rfl rfl ?_ ?_; (intro ww_; simp only [List.map_toArray, List.map_cons, List.map_nil]; kernel_rfl))
        | ((with_reducible refine gate_s (t := 26) (p := 6) rfl ?_); refine ag_store aT26 gb264 0 #[.int .i64 0, .int .i64 0, .int .i64 0] #[.int .i64 0, .int .i64 0, .int .i64 5] #[.int .i64 0, .int .i64 0, .int .i64 5] BKb264.out rfl (by simp) (by intro v_ hv_; simp at hv_; rcases hv_ with rfl | rfl | rfl <;> first | rfl) rfl rfl _ _ rfl rfl rfl ?_; intro w329 ho_ hB_; replace HL := hid (ho_.below HL.out GEb264.out); replace BKb264 := hid hB_; clear ho_ hB_))
      (try simp only [Act.put, List.setIfInBounds_toArray, List.set_cons_zero, List.set_cons_succ])
      refine bodyPost_ret (v := .agg #[.int .i64 0, .int .i64 0, .int .i64 5]) (res_c aT26 rfl _ gb264 #[.int .i64 0, .int .i64 0, .int .i64 5] BKb264.out rfl rfl) rfl ?_
      exact ⟨by first | rfl | (simp; done) | (simp [*]; done), HL.out⟩
  | false =>
    rw [if_neg (show ¬ (false = true) by decide)] at H
    simp only [Option.some.injEq, Prod.mk.injEq] at H
    obtain ⟨rfl, rfl, rfl⟩ := H
    go_enter Try.func13, Try.ntmps13
    have k331 := True.intro
    go_wp2_with (first
      | ((with_reducible refine gate_d (N := 6) rfl ?_); obtain ⟨gb264, hgb264⟩ : ∃ g_, w.heap.size = g_ := ⟨_, rfl⟩; refine ag_alloc aT26 gb264 hgb264 rfl rfl ?_; intro w330 hb_ hB_ hs_; have GEb264 : Hid (w.heap.size ≤ gb264) := hid (by have := HL.out.size; omega); replace HL := hid (HL.out.trans (hb_.mono GEb264.out)); have BKb264 := hid hB_; clear hb_ hB_ hs_ hgb264)
      | (go_at_call 29; clear k331; refine (i_alfilref14_There.calls a0 a1 false _ A273.out).mono ?_; rintro e_ w' ⟨rfl, rfl⟩)
      | ((with_reducible refine gate_d (N := 19) rfl ?_); refine ag_build (.agg #[.int .i64 0, .int .i64 0, .int .i64 5]) _ rfl rfl ?_ ?_; (intro ww_; simp only [List.map_toArray, List.map_cons, List.map_nil]; kernel_rfl))
      | ((with_reducible refine gate_s (t := 26) (p := 6) rfl ?_); refine ag_store aT26 gb264 0 #[.int .i64 0, .int .i64 0, .int .i64 0] #[.int .i64 0, .int .i64 0, .int .i64 5] #[.int .i64 0, .int .i64 0, .int .i64 5] BKb264.out rfl (by simp) (by intro v_ hv_; simp at hv_; rcases hv_ with rfl | rfl | rfl <;> first | rfl) rfl rfl _ _ rfl rfl rfl ?_; intro w332 ho_ hB_; replace HL := hid (ho_.below HL.out GEb264.out); replace BKb264 := hid hB_; clear ho_ hB_))
    (try simp only [Act.put, List.setIfInBounds_toArray, List.set_cons_zero, List.set_cons_succ])
    refine bodyPost_ret (v := .agg #[.int .i64 0, .int .i64 0, .int .i64 5]) (res_c aT26 rfl _ gb264 #[.int .i64 0, .int .i64 0, .int .i64 5] BKb264.out rfl rfl) rfl ?_
    exact ⟨by first | rfl | (simp; done) | (simp [*]; done), HL.out⟩
end Go.Proofs.Ytabbkeliknidgaa
