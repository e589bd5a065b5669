/- The walks of package forsyth: row. -/
import Derived.Test.YtpgdcpkggmkooaaProg
import Derived.Test.YtpgdcpkggmkooaaFw
namespace Go.Proofs.Ytpgdcpkggmkooaa
open Go.RowKit
set_option linter.unusedVariables false
set_option linter.unusedSimpArgs false

/-! i_forsyth_row: function 63 -/
def i_forsyth_row.l0 : Nat → List Int → Int → ByteArray → Int → Int → Option (ByteArray)
  | 0, _, _, _, _, _ => none
  | k + 1, a0, a1, x5_0, x6_0, x10_0 => if x10_0 < 8 then ((i_square_At.f x10_0 a1).bind fun bt88 => (if 0 ≤ bt88.1 then (if bt88.1 < 64 then (if (nt a0 bt88.1.toNat 0) = 0 then (i_forsyth_row.l0 k a0 a1 x5_0 (wrap64 (x6_0 + 1)) (wrap64 (x10_0 + 1))) else (if x6_0 > 0 then (if x5_0.size + (Utf8.encode (wrap32 (wrap64 (48 + x6_0)))).size ≤ 9223372036854775807 then (if (x5_0 ++ (Utf8.encode (wrap32 (wrap64 (48 + x6_0))))).size + (letterB (wrap64 (nt a0 bt88.1.toNat 0))).size ≤ 9223372036854775807 then (i_forsyth_row.l0 k a0 a1 ((x5_0 ++ (Utf8.encode (wrap32 (wrap64 (48 + x6_0))))) ++ (letterB (wrap64 (nt a0 bt88.1.toNat 0)))) 0 (wrap64 (x10_0 + 1))) else (none)) else (none)) else (if x5_0.size + (letterB (wrap64 (nt a0 bt88.1.toNat 0))).size ≤ 9223372036854775807 then (i_forsyth_row.l0 k a0 a1 (x5_0 ++ (letterB (wrap64 (nt a0 bt88.1.toNat 0)))) 0 (wrap64 (x10_0 + 1))) else (none)))) else (none)) else (none))) else (if x6_0 > 0 then (if x5_0.size + (Utf8.encode (wrap32 (wrap64 (48 + x6_0)))).size ≤ 9223372036854775807 then (some (x5_0 ++ (Utf8.encode (wrap32 (wrap64 (48 + x6_0)))))) else (none)) else (some x5_0))
def i_forsyth_row.f (k : Nat) (a0 : List Int) (a1 : Int) : Option (ByteArray) := i_forsyth_row.l0 k a0 a1 (⟨#[]⟩ : ByteArray) 0 0
set_option maxHeartbeats 40000000 in
set_option maxRecDepth 100000 in
theorem i_forsyth_row.calls (k : Nat) (a0 : List Int) (a1 : Int) (hla0 : a0.length = 64) (r1 : ByteArray) (w : World) (h : i_forsyth_row.f k a0 a1 = some r1) :
    Calls Try.prog 63 #[.agg (bv a0), .int .i64 a1] w fun e w' => e = .returned (.string r1) ∧ Below w.heap.size w w' := by
  have LN_a0 := hid hla0
  clear hla0
  have HL := hid (Below.refl w.heap.size w)
  have H : (i_forsyth_row.l0 k a0 a1 (⟨#[]⟩ : ByteArray) 0 0) = some r1 := h
  clear h
  have H' := hid H
  clear H
  go_enter Try.func63, Try.ntmps63
  go_wp2_with (first
    | ((with_reducible refine gate_d (N := 2) rfl ?_); obtain ⟨gb85, hgb85⟩ : ∃ g_, w.heap.size = g_ := ⟨_, rfl⟩; refine ag_box (bv a0) gb85 hgb85 rfl _ rfl rfl ?_; intro w90 hb_ hB_ hs_; have GEb85 : Hid (w.heap.size ≤ gb85) := hid (by have := HL.out.size; omega); replace HL := hid (HL.out.trans (hb_.mono GEb85.out)); have BKb85 := hid hB_; clear hb_ hB_ hs_ hgb85))
  (try simp only [Act.put, List.setIfInBounds_toArray, List.set_cons_zero, List.set_cons_succ])
  go_loopg [5, 6, 10] k (fun kq v5 v6 v10 w' => ∃ (x5_0 : ByteArray) (x6_0 : Int) (x10_0 : Int), v5 = .string x5_0 ∧ v6 = .int .i64 x6_0 ∧ v10 = .int .i64 x10_0 ∧ Hid (i_forsyth_row.l0 kq a0 a1 x5_0 x6_0 x10_0 = some r1) ∧ Hid (kq ≤ k) ∧ Hid (Blk w' gb85 24 (bv a0)) ∧ Hid (Below w.heap.size w w'))
  case atStart => exact ⟨(⟨#[]⟩ : ByteArray), (0 : Int), (0 : Int), (by first | rfl | (simp; done) | (simp [*]; done)), (by first | rfl | (simp; done) | (simp [*]; done)), (by first | rfl | (simp; done) | (simp [*]; done)), H', (hid (by first | omega | (omega))), (hid (by exact BKb85.out)), HL⟩
  case round =>
    clear H'
    clear HL BKb85
    obtain ⟨x5_0, x6_0, x10_0, rfl, rfl, rfl, HA, HK91, BKb85, HL⟩ := hrel
    cases gk with
    | zero => exact absurd HA.out (by simp [i_forsyth_row.l0])
    | succ k92 =>
      have H := HA.out
      clear HA
      simp only [i_forsyth_row.l0] at H
      by_cases c93 : x10_0 < 8
      · rw [if_pos c93] at H
        have c93b0 : decide (x10_0 < 8) = true := decide_eq_true c93
        have hc93 := hid c93
        clear c93
        replace H := Option.bind_eq_some_iff.mp H
        obtain ⟨⟨t88, t89⟩, A94_, H⟩ := H
        replace H : (if 0 ≤ t88 then (if t88 < 64 then (if (nt a0 t88.toNat 0) = 0 then (i_forsyth_row.l0 k92 a0 a1 x5_0 (wrap64 (x6_0 + 1)) (wrap64 (x10_0 + 1))) else (if x6_0 > 0 then (if x5_0.size + (Utf8.encode (wrap32 (wrap64 (48 + x6_0)))).size ≤ 9223372036854775807 then (if (x5_0 ++ (Utf8.encode (wrap32 (wrap64 (48 + x6_0))))).size + (letterB (wrap64 (nt a0 t88.toNat 0))).size ≤ 9223372036854775807 then (i_forsyth_row.l0 k92 a0 a1 ((x5_0 ++ (Utf8.encode (wrap32 (wrap64 (48 + x6_0))))) ++ (letterB (wrap64 (nt a0 t88.toNat 0)))) 0 (wrap64 (x10_0 + 1))) else (none)) else (none)) else (if x5_0.size + (letterB (wrap64 (nt a0 t88.toNat 0))).size ≤ 9223372036854775807 then (i_forsyth_row.l0 k92 a0 a1 (x5_0 ++ (letterB (wrap64 (nt a0 t88.toNat 0)))) 0 (wrap64 (x10_0 + 1))) else (none)))) else (none)) else (none)) = some r1 := H
        have A94 := hid A94_
        clear A94_
        by_cases c95 : 0 ≤ t88
        · rw [if_pos c95] at H
          have c95b0 : decide (0 ≤ t88) = true := decide_eq_true c95
          have hc95 := hid c95
          clear c95
          by_cases c96 : t88 < 64
          · rw [if_pos c96] at H
            have c96b0 : decide (t88 < 64) = true := decide_eq_true c96
            have hc96 := hid c96
            clear c96
            by_cases c97 : (nt a0 t88.toNat 0) = 0
            · rw [if_pos c97] at H
              have c97b0 : ((nt a0 t88.toNat 0) == 0) = true := beq_iff_eq.mpr c97
              have c97b1 : ((nt a0 t88.toNat 0) != 0) = false := bne_eq_false_iff_eq.mpr c97
              have hc97 := hid c97
              clear c97
              have H' := hid H
              clear H
              have k98 := True.intro
              go_wp2_with (first
                | (go_at_call 76; clear k98; refine (i_square_At.calls x10_0 a1 t88 t89 _ A94.out).mono ?_; rintro e_ w' ⟨rfl, rfl⟩)
                | ((with_reducible refine gate_d (N := 20) rfl ?_); refine ag_fix (.pointer (some ⟨gb85, t88.toNat, none⟩)) (ex_at 24 (.pointer (some ⟨gb85, 0, none⟩)) (.int .i64 t88) (.pointer (some ⟨gb85, t88.toNat, none⟩)) (fun w_ => (run_atv 22 uT24 sT22.size gb85 0 t88 hc95.out hc96.out w_).trans (by simp)) _ _ rfl rfl rfl) rfl ?_)
                | ((with_reducible refine gate_d (N := 21) rfl ?_); refine ag_fix (.int .i8 (nt a0 t88.toNat 0)) (ex_get sT22 gb85 (t88.toNat) (.int .i8 (nt a0 t88.toNat 0)) ((bv a0)) BKb85.out (av_get 0 (by have h_ : a0.length = 64 := (by first | rfl | (simp only [List.length_set, List.length_replicate, zL_len, List.length_cons, List.length_nil, LN_a0.out]; done) | (simp [zL_len, LN_a0.out]; done)); have h1_ := hc95.out; have h2_ := hc96.out; omega)) _ rfl rfl) rfl ?_))
              (try simp only [Act.put, List.setIfInBounds_toArray, List.set_cons_zero, List.set_cons_succ])
              go_roundg k92
              case measure => have := HK91.out; omega
              case rel => exact ⟨x5_0, wrap64 (x6_0 + 1), wrap64 (x10_0 + 1), (by first | rfl | (simp; done) | (simp [*]; done)), (by first | rfl | (simp; done) | (simp [*]; done)), (by first | rfl | (simp; done) | (simp [*]; done)), H', (hid (by first | omega | (have := HK91.out; omega))), (hid (by exact BKb85.out)), HL⟩
            · rw [if_neg c97] at H
              have c97b0 : ((nt a0 t88.toNat 0) == 0) = false := beq_eq_false_iff_ne.mpr c97
              have c97b1 : ((nt a0 t88.toNat 0) != 0) = true := bne_iff_ne.mpr c97
              have hc97 := hid c97
              clear c97
              by_cases c99 : x6_0 > 0
              · rw [if_pos c99] at H
                have c99b0 : decide (0 < x6_0) = true := decide_eq_true c99
                have hc99 := hid c99
                clear c99
                by_cases c100 : x5_0.size + (Utf8.encode (wrap32 (wrap64 (48 + x6_0)))).size ≤ 9223372036854775807
                · rw [if_pos c100] at H
                  have hc100 := hid c100
                  clear c100
                  by_cases c101 : (x5_0 ++ (Utf8.encode (wrap32 (wrap64 (48 + x6_0))))).size + (letterB (wrap64 (nt a0 t88.toNat 0))).size ≤ 9223372036854775807
                  · rw [if_pos c101] at H
                    have hc101 := hid c101
                    clear c101
                    have H' := hid H
                    clear H
                    have k102 := True.intro
                    have k103 := True.intro
                    go_wp2_with (first
                      | (go_at_call 76; clear k102; refine (i_square_At.calls x10_0 a1 t88 t89 _ A94.out).mono ?_; rintro e_ w' ⟨rfl, rfl⟩)
                      | ((with_reducible refine gate_d (N := 20) rfl ?_); refine ag_fix (.pointer (some ⟨gb85, t88.toNat, none⟩)) (ex_at 24 (.pointer (some ⟨gb85, 0, none⟩)) (.int .i64 t88) (.pointer (some ⟨gb85, t88.toNat, none⟩)) (fun w_ => (run_atv 22 uT24 sT22.size gb85 0 t88 hc95.out hc96.out w_).trans (by simp)) _ _ rfl rfl rfl) rfl ?_)
                      | ((with_reducible refine gate_d (N := 21) rfl ?_); refine ag_fix (.int .i8 (nt a0 t88.toNat 0)) (ex_get sT22 gb85 (t88.toNat) (.int .i8 (nt a0 t88.toNat 0)) ((bv a0)) BKb85.out (av_get 0 (by have h_ : a0.length = 64 := (by first | rfl | (simp only [List.length_set, List.length_replicate, zL_len, List.length_cons, List.length_nil, LN_a0.out]; done) | (simp [zL_len, LN_a0.out]; done)); have h1_ := hc95.out; have h2_ := hc96.out; omega)) _ rfl rfl) rfl ?_)
                      | ((with_reducible refine gate_d (N := 32) rfl ?_); refine ag_fix (.string (x5_0 ++ (Utf8.encode (wrap32 (wrap64 (48 + x6_0)))))) (ex_cat 9 x5_0 (Utf8.encode (wrap32 (wrap64 (48 + x6_0)))) hc100.out _ _ _ rfl rfl rfl) rfl ?_)
                      | ((with_reducible refine gate_d (N := 35) rfl ?_); refine ag_fix (.pointer (some ⟨gb85, t88.toNat, none⟩)) (ex_at 24 (.pointer (some ⟨gb85, 0, none⟩)) (.int .i64 t88) (.pointer (some ⟨gb85, t88.toNat, none⟩)) (fun w_ => (run_atv 22 uT24 sT22.size gb85 0 t88 hc95.out hc96.out w_).trans (by simp)) _ _ rfl rfl rfl) rfl ?_)
                      | ((with_reducible refine gate_d (N := 36) rfl ?_); refine ag_fix (.int .i8 (nt a0 t88.toNat 0)) (ex_get sT22 gb85 (t88.toNat) (.int .i8 (nt a0 t88.toNat 0)) ((bv a0)) BKb85.out (av_get 0 (by have h_ : a0.length = 64 := (by first | rfl | (simp only [List.length_set, List.length_replicate, zL_len, List.length_cons, List.length_nil, LN_a0.out]; done) | (simp [zL_len, LN_a0.out]; done)); have h1_ := hc95.out; have h2_ := hc96.out; omega)) _ rfl rfl) rfl ?_)
                      | (go_at_call 77; clear k103; refine (mnLetter (wrap64 (nt a0 t88.toNat 0)) _).mono ?_; rintro e_ w104 ⟨rfl, hb_⟩; replace BKb85 := hid (BKb85.out.below hb_ BKb85.out.lt); replace HL := hid (HL.out.trans (hb_.mono HL.out.size)); clear hb_)
                      | ((with_reducible refine gate_d (N := 39) rfl ?_); refine ag_fix (.string ((x5_0 ++ (Utf8.encode (wrap32 (wrap64 (48 + x6_0))))) ++ (letterB (wrap64 (nt a0 t88.toNat 0))))) (ex_cat 9 (x5_0 ++ (Utf8.encode (wrap32 (wrap64 (48 + x6_0))))) (letterB (wrap64 (nt a0 t88.toNat 0))) hc101.out _ _ _ rfl rfl rfl) rfl ?_))
                    (try simp only [Act.put, List.setIfInBounds_toArray, List.set_cons_zero, List.set_cons_succ])
                    go_roundg k92
                    case measure => have := HK91.out; omega
                    case rel => exact ⟨(x5_0 ++ (Utf8.encode (wrap32 (wrap64 (48 + x6_0))))) ++ (letterB (wrap64 (nt a0 t88.toNat 0))), (0 : Int), wrap64 (x10_0 + 1), (by first | rfl | (simp; done) | (simp [*]; done)), (by first | rfl | (simp; done) | (simp [*]; done)), (by first | rfl | (simp; done) | (simp [*]; done)), H', (hid (by first | omega | (have := HK91.out; omega))), (hid (by exact BKb85.out)), HL⟩
                  · rw [if_neg c101] at H
                    exact absurd H (by simp)
                · rw [if_neg c100] at H
                  exact absurd H (by simp)
              · rw [if_neg c99] at H
                have c99b0 : decide (0 < x6_0) = false := decide_eq_false c99
                have hc99 := hid c99
                clear c99
                by_cases c105 : x5_0.size + (letterB (wrap64 (nt a0 t88.toNat 0))).size ≤ 9223372036854775807
                · rw [if_pos c105] at H
                  have hc105 := hid c105
                  clear c105
                  have H' := hid H
                  clear H
                  have k106 := True.intro
                  have k107 := True.intro
                  go_wp2_with (first
                    | (go_at_call 76; clear k106; refine (i_square_At.calls x10_0 a1 t88 t89 _ A94.out).mono ?_; rintro e_ w' ⟨rfl, rfl⟩)
                    | ((with_reducible refine gate_d (N := 20) rfl ?_); refine ag_fix (.pointer (some ⟨gb85, t88.toNat, none⟩)) (ex_at 24 (.pointer (some ⟨gb85, 0, none⟩)) (.int .i64 t88) (.pointer (some ⟨gb85, t88.toNat, none⟩)) (fun w_ => (run_atv 22 uT24 sT22.size gb85 0 t88 hc95.out hc96.out w_).trans (by simp)) _ _ rfl rfl rfl) rfl ?_)
                    | ((with_reducible refine gate_d (N := 21) rfl ?_); refine ag_fix (.int .i8 (nt a0 t88.toNat 0)) (ex_get sT22 gb85 (t88.toNat) (.int .i8 (nt a0 t88.toNat 0)) ((bv a0)) BKb85.out (av_get 0 (by have h_ : a0.length = 64 := (by first | rfl | (simp only [List.length_set, List.length_replicate, zL_len, List.length_cons, List.length_nil, LN_a0.out]; done) | (simp [zL_len, LN_a0.out]; done)); have h1_ := hc95.out; have h2_ := hc96.out; omega)) _ rfl rfl) rfl ?_)
                    | ((with_reducible refine gate_d (N := 35) rfl ?_); refine ag_fix (.pointer (some ⟨gb85, t88.toNat, none⟩)) (ex_at 24 (.pointer (some ⟨gb85, 0, none⟩)) (.int .i64 t88) (.pointer (some ⟨gb85, t88.toNat, none⟩)) (fun w_ => (run_atv 22 uT24 sT22.size gb85 0 t88 hc95.out hc96.out w_).trans (by simp)) _ _ rfl rfl rfl) rfl ?_)
                    | ((with_reducible refine gate_d (N := 36) rfl ?_); refine ag_fix (.int .i8 (nt a0 t88.toNat 0)) (ex_get sT22 gb85 (t88.toNat) (.int .i8 (nt a0 t88.toNat 0)) ((bv a0)) BKb85.out (av_get 0 (by have h_ : a0.length = 64 := (by first | rfl | (simp only [List.length_set, List.length_replicate, zL_len, List.length_cons, List.length_nil, LN_a0.out]; done) | (simp [zL_len, LN_a0.out]; done)); have h1_ := hc95.out; have h2_ := hc96.out; omega)) _ rfl rfl) rfl ?_)
                    | (go_at_call 77; clear k107; refine (mnLetter (wrap64 (nt a0 t88.toNat 0)) _).mono ?_; rintro e_ w108 ⟨rfl, hb_⟩; replace BKb85 := hid (BKb85.out.below hb_ BKb85.out.lt); replace HL := hid (HL.out.trans (hb_.mono HL.out.size)); clear hb_)
                    | ((with_reducible refine gate_d (N := 39) rfl ?_); refine ag_fix (.string (x5_0 ++ (letterB (wrap64 (nt a0 t88.toNat 0))))) (ex_cat 9 x5_0 (letterB (wrap64 (nt a0 t88.toNat 0))) hc105.out _ _ _ rfl rfl rfl) rfl ?_))
                  (try simp only [Act.put, List.setIfInBounds_toArray, List.set_cons_zero, List.set_cons_succ])
                  go_roundg k92
                  case measure => have := HK91.out; omega
                  case rel => exact ⟨x5_0 ++ (letterB (wrap64 (nt a0 t88.toNat 0))), (0 : Int), wrap64 (x10_0 + 1), (by first | rfl | (simp; done) | (simp [*]; done)), (by first | rfl | (simp; done) | (simp [*]; done)), (by first | rfl | (simp; done) | (simp [*]; done)), H', (hid (by first | omega | (have := HK91.out; omega))), (hid (by exact BKb85.out)), HL⟩
                · rw [if_neg c105] at H
                  exact absurd H (by simp)
          · rw [if_neg c96] at H
            exact absurd H (by simp)
        · rw [if_neg c95] at H
          exact absurd H (by simp)
      · rw [if_neg c93] at H
        have c93b0 : decide (x10_0 < 8) = false := decide_eq_false c93
        have hc93 := hid c93
        clear c93
        by_cases c109 : x6_0 > 0
        · rw [if_pos c109] at H
          have c109b0 : decide (0 < x6_0) = true := decide_eq_true c109
          have hc109 := hid c109
          clear c109
          by_cases c110 : x5_0.size + (Utf8.encode (wrap32 (wrap64 (48 + x6_0)))).size ≤ 9223372036854775807
          · rw [if_pos c110] at H
            have hc110 := hid c110
            clear c110
            obtain rfl := Option.some.inj H
            clear H
            go_wp2_with (first
              | ((with_reducible refine gate_d (N := 48) rfl ?_); refine ag_fix (.string (x5_0 ++ (Utf8.encode (wrap32 (wrap64 (48 + x6_0)))))) (ex_cat 9 x5_0 (Utf8.encode (wrap32 (wrap64 (48 + x6_0)))) hc110.out _ _ _ rfl rfl rfl) rfl ?_))
            (try simp only [Act.put, List.setIfInBounds_toArray, List.set_cons_zero, List.set_cons_succ])
            go_ret
            exact ⟨by first | rfl | (simp; done) | (simp [*]; done), HL.out⟩
          · rw [if_neg c110] at H
            exact absurd H (by simp)
        · rw [if_neg c109] at H
          have c109b0 : decide (0 < x6_0) = false := decide_eq_false c109
          have hc109 := hid c109
          clear c109
          obtain rfl := Option.some.inj H
          clear H
          go_wp2_with fail
          (try simp only [Act.put, List.setIfInBounds_toArray, List.set_cons_zero, List.set_cons_succ])
          go_ret
          exact ⟨by first | rfl | (simp; done) | (simp [*]; done), HL.out⟩
end Go.Proofs.Ytpgdcpkggmkooaa
