/- The walks of boards right or not. -/
import Derived.Test.YtpgdcpkggmkooaaProg
import Derived.Test.YtpgdcpkggmkooaaFw
namespace Go.Proofs.Ytpgdcpkggmkooaa
open Go.RowKit
set_option linter.unusedVariables false
set_option linter.unusedSimpArgs false

/-! i_board_Right: function 19 -/
def i_board_Right.l0 : Nat → List Int → Int → Option (Bool)
  | 0, _, _ => none
  | k + 1, a0, x6_0 => if x6_0 < 64 then (if 0 ≤ x6_0 then (if (nt a0 x6_0.toNat 0) = 0 then (i_board_Right.l0 k a0 (wrap64 (x6_0 + 1))) else (if manB (wrap64 (nt a0 x6_0.toNat 0)) = true then (i_board_Right.l0 k a0 (wrap64 (x6_0 + 1))) else (some false))) else (none)) else (some true)
def i_board_Right.f (k : Nat) (a0 : List Int) : Option (Bool) := i_board_Right.l0 k a0 0
set_option maxHeartbeats 40000000 in
set_option maxRecDepth 100000 in
theorem i_board_Right.calls (k : Nat) (a0 : List Int) (hla0 : a0.length = 64) (r1 : Bool) (w : World) (h : i_board_Right.f k a0 = some r1) :
    Calls Try.prog 19 #[.agg (bv a0)] w fun e w' => e = .returned (.bool r1) ∧ Below w.heap.size w w' := by
  have LN_a0 := hid hla0
  clear hla0
  have HL := hid (Below.refl w.heap.size w)
  have H : (i_board_Right.l0 k a0 0) = some r1 := h
  clear h
  have H' := hid H
  clear H
  go_enter Try.func19, Try.ntmps19
  go_wp2_with (first
    | ((with_reducible refine gate_d (N := 1) rfl ?_); obtain ⟨gb85, hgb85⟩ : ∃ g_, w.heap.size = g_ := ⟨_, rfl⟩; refine ag_box (bv a0) gb85 hgb85 rfl _ rfl rfl ?_; intro w86 hb_ hB_ hs_; have GEb85 : Hid (w.heap.size ≤ gb85) := hid (by have := HL.out.size; omega); replace HL := hid (HL.out.trans (hb_.mono GEb85.out)); have BKb85 := hid hB_; clear hb_ hB_ hs_ hgb85)
    | ((with_reducible refine gate_d (N := 5) rfl ?_); refine ag_fix (.agg (bv a0)) (ex_load boardT gb85 0 (bv a0) (bv a0) BKb85.out (av_le (by first | rfl | (simp only [List.length_set, List.length_replicate, zL_len, List.length_cons, List.length_nil, LN_a0.out]; done) | (simp [zL_len, LN_a0.out]; done))) (av_ex (by first | rfl | (simp only [List.length_set, List.length_replicate, zL_len, List.length_cons, List.length_nil, LN_a0.out]; done) | (simp [zL_len, LN_a0.out]; done))) _ rfl rfl) rfl ?_))
  (try simp only [Act.put, List.setIfInBounds_toArray, List.set_cons_zero, List.set_cons_succ])
  go_loopg [6] k (fun kq v6 w' => ∃ (x6_0 : Int), v6 = .int .i64 x6_0 ∧ Hid (i_board_Right.l0 kq a0 x6_0 = some r1) ∧ Hid (kq ≤ k) ∧ Hid (Blk w' gb85 24 (bv a0)) ∧ Hid (Below w.heap.size w w'))
  case atStart => exact ⟨(0 : Int), (by first | rfl | (simp; done) | (simp [*]; done)), H', (hid (by first | omega | (omega))), (hid (by exact BKb85.out)), HL⟩
  case round =>
    clear H'
    clear HL BKb85
    obtain ⟨x6_0, rfl, HA, HK87, BKb85, HL⟩ := hrel
    cases gk with
    | zero => exact absurd HA.out (by simp [i_board_Right.l0])
    | succ k88 =>
      have H := HA.out
      clear HA
      simp only [i_board_Right.l0] at H
      by_cases c89 : x6_0 < 64
      · rw [if_pos c89] at H
        have c89b0 : decide (x6_0 < 64) = true := decide_eq_true c89
        have hc89 := hid c89
        clear c89
        by_cases c90 : 0 ≤ x6_0
        · rw [if_pos c90] at H
          have c90b0 : decide (0 ≤ x6_0) = true := decide_eq_true c90
          have hc90 := hid c90
          clear c90
          by_cases c91 : (nt a0 x6_0.toNat 0) = 0
          · rw [if_pos c91] at H
            have c91b0 : ((nt a0 x6_0.toNat 0) == 0) = true := beq_iff_eq.mpr c91
            have c91b1 : ((nt a0 x6_0.toNat 0) != 0) = false := bne_eq_false_iff_eq.mpr c91
            have hc91 := hid c91
            clear c91
            have H' := hid H
            clear H
            go_wp2_with (first
              | ((with_reducible refine gate_d (N := 8) rfl ?_); refine ag_fix (.int .i8 (nt a0 x6_0.toNat 0)) (ex_ix 24 (.agg (bv a0)) (.int .i64 x6_0) (.int .i8 (nt a0 x6_0.toNat 0)) (fun w_ => run_ixv 22 uT24 sT22 a0 (by first | rfl | (simp only [List.length_set, List.length_replicate, zL_len, List.length_cons, List.length_nil, LN_a0.out]; done) | (simp [zL_len, LN_a0.out]; done)) 0 x6_0 hc90.out hc89.out w_) _ _ rfl rfl rfl) rfl ?_))
            (try simp only [Act.put, List.setIfInBounds_toArray, List.set_cons_zero, List.set_cons_succ])
            go_roundg k88
            case measure => have := HK87.out; omega
            case rel => exact ⟨wrap64 (x6_0 + 1), (by first | rfl | (simp; done) | (simp [*]; done)), H', (hid (by first | omega | (have := HK87.out; omega))), (hid (by exact BKb85.out)), HL⟩
          · rw [if_neg c91] at H
            have c91b0 : ((nt a0 x6_0.toNat 0) == 0) = false := beq_eq_false_iff_ne.mpr c91
            have c91b1 : ((nt a0 x6_0.toNat 0) != 0) = true := bne_iff_ne.mpr c91
            have hc91 := hid c91
            clear c91
            by_cases c92 : manB (wrap64 (nt a0 x6_0.toNat 0)) = true
            · rw [if_pos c92] at H
              have c92b0 : manB (wrap64 (nt a0 x6_0.toNat 0)) = true := c92
              have hc92 := hid c92
              clear c92
              have H' := hid H
              clear H
              have k93 := True.intro
              go_wp2_with (first
                | ((with_reducible refine gate_d (N := 8) rfl ?_); refine ag_fix (.int .i8 (nt a0 x6_0.toNat 0)) (ex_ix 24 (.agg (bv a0)) (.int .i64 x6_0) (.int .i8 (nt a0 x6_0.toNat 0)) (fun w_ => run_ixv 22 uT24 sT22 a0 (by first | rfl | (simp only [List.length_set, List.length_replicate, zL_len, List.length_cons, List.length_nil, LN_a0.out]; done) | (simp [zL_len, LN_a0.out]; done)) 0 x6_0 hc90.out hc89.out w_) _ _ rfl rfl rfl) rfl ?_)
                | (go_at_call 50; clear k93; refine (mnRight (wrap64 (nt a0 x6_0.toNat 0)) _).mono ?_; rintro e_ w' ⟨rfl, rfl⟩))
              (try simp only [Act.put, List.setIfInBounds_toArray, List.set_cons_zero, List.set_cons_succ])
              go_roundg k88
              case measure => have := HK87.out; omega
              case rel => exact ⟨wrap64 (x6_0 + 1), (by first | rfl | (simp; done) | (simp [*]; done)), H', (hid (by first | omega | (have := HK87.out; omega))), (hid (by exact BKb85.out)), HL⟩
            · rw [if_neg c92] at H
              have c92b0 : manB (wrap64 (nt a0 x6_0.toNat 0)) = false := by simpa using c92
              have hc92 := hid c92
              clear c92
              obtain rfl := Option.some.inj H
              clear H
              have k94 := True.intro
              go_wp2_with (first
                | ((with_reducible refine gate_d (N := 8) rfl ?_); refine ag_fix (.int .i8 (nt a0 x6_0.toNat 0)) (ex_ix 24 (.agg (bv a0)) (.int .i64 x6_0) (.int .i8 (nt a0 x6_0.toNat 0)) (fun w_ => run_ixv 22 uT24 sT22 a0 (by first | rfl | (simp only [List.length_set, List.length_replicate, zL_len, List.length_cons, List.length_nil, LN_a0.out]; done) | (simp [zL_len, LN_a0.out]; done)) 0 x6_0 hc90.out hc89.out w_) _ _ rfl rfl rfl) rfl ?_)
                | (go_at_call 50; clear k94; refine (mnRight (wrap64 (nt a0 x6_0.toNat 0)) _).mono ?_; rintro e_ w' ⟨rfl, rfl⟩))
              (try simp only [Act.put, List.setIfInBounds_toArray, List.set_cons_zero, List.set_cons_succ])
              go_ret
              exact ⟨by first | rfl | (simp; done) | (simp [*]; done), HL.out⟩
        · rw [if_neg c90] at H
          exact absurd H (by simp)
      · rw [if_neg c89] at H
        have c89b0 : decide (x6_0 < 64) = false := decide_eq_false c89
        have hc89 := hid c89
        clear c89
        obtain rfl := Option.some.inj H
        clear H
        go_wp2_with fail
        (try simp only [Act.put, List.setIfInBounds_toArray, List.set_cons_zero, List.set_cons_succ])
        go_ret
        exact ⟨by first | rfl | (simp; done) | (simp [*]; done), HL.out⟩
/-! i_alfilref03_Right: function 20 -/
def i_alfilref03_Right.l0 : Nat → List Int → Int → Option (Bool)
  | 0, _, _ => none
  | k + 1, a0, x3_0 => if x3_0 < 64 then (if 0 ≤ x3_0 then (if (nt a0 x3_0.toNat 0) = 0 then (i_alfilref03_Right.l0 k a0 (wrap64 (x3_0 + 1))) else (if (kindZ (wrap64 (nt a0 x3_0.toNat 0))) = 0 then (some false) else (i_alfilref03_Right.l0 k a0 (wrap64 (x3_0 + 1))))) else (none)) else (some true)
def i_alfilref03_Right.f (k : Nat) (a0 : List Int) : Option (Bool) := i_alfilref03_Right.l0 k a0 0
set_option maxHeartbeats 40000000 in
set_option maxRecDepth 100000 in
theorem i_alfilref03_Right.calls (k : Nat) (a0 : List Int) (hla0 : a0.length = 64) (r1 : Bool) (w : World) (h : i_alfilref03_Right.f k a0 = some r1) :
    Calls Try.prog 20 #[.agg (bv a0)] w fun e w' => e = .returned (.bool r1) ∧ Below w.heap.size w w' := by
  have LN_a0 := hid hla0
  clear hla0
  have HL := hid (Below.refl w.heap.size w)
  have H : (i_alfilref03_Right.l0 k a0 0) = some r1 := h
  clear h
  have H' := hid H
  clear H
  go_enter Try.func20, Try.ntmps20
  go_wp2_with (first
    | ((with_reducible refine gate_d (N := 1) rfl ?_); obtain ⟨gb95, hgb95⟩ : ∃ g_, w.heap.size = g_ := ⟨_, rfl⟩; refine ag_box (bv a0) gb95 hgb95 rfl _ rfl rfl ?_; intro w96 hb_ hB_ hs_; have GEb95 : Hid (w.heap.size ≤ gb95) := hid (by have := HL.out.size; omega); replace HL := hid (HL.out.trans (hb_.mono GEb95.out)); have BKb95 := hid hB_; clear hb_ hB_ hs_ hgb95))
  (try simp only [Act.put, List.setIfInBounds_toArray, List.set_cons_zero, List.set_cons_succ])
  go_loopg [3] k (fun kq v3 w' => ∃ (x3_0 : Int), v3 = .int .i64 x3_0 ∧ Hid (i_alfilref03_Right.l0 kq a0 x3_0 = some r1) ∧ Hid (kq ≤ k) ∧ Hid (Blk w' gb95 24 (bv a0)) ∧ Hid (Below w.heap.size w w'))
  case atStart => exact ⟨(0 : Int), (by first | rfl | (simp; done) | (simp [*]; done)), H', (hid (by first | omega | (omega))), (hid (by exact BKb95.out)), HL⟩
  case round =>
    clear H'
    clear HL BKb95
    obtain ⟨x3_0, rfl, HA, HK97, BKb95, HL⟩ := hrel
    cases gk with
    | zero => exact absurd HA.out (by simp [i_alfilref03_Right.l0])
    | succ k98 =>
      have H := HA.out
      clear HA
      simp only [i_alfilref03_Right.l0] at H
      by_cases c99 : x3_0 < 64
      · rw [if_pos c99] at H
        have c99b0 : decide (x3_0 < 64) = true := decide_eq_true c99
        have hc99 := hid c99
        clear c99
        by_cases c100 : 0 ≤ x3_0
        · rw [if_pos c100] at H
          have c100b0 : decide (0 ≤ x3_0) = true := decide_eq_true c100
          have hc100 := hid c100
          clear c100
          by_cases c101 : (nt a0 x3_0.toNat 0) = 0
          · rw [if_pos c101] at H
            have c101b0 : ((nt a0 x3_0.toNat 0) == 0) = true := beq_iff_eq.mpr c101
            have c101b1 : ((nt a0 x3_0.toNat 0) != 0) = false := bne_eq_false_iff_eq.mpr c101
            have hc101 := hid c101
            clear c101
            have H' := hid H
            clear H
            go_wp2_with (first
              | ((with_reducible refine gate_d (N := 9) rfl ?_); refine ag_fix (.pointer (some ⟨gb95, x3_0.toNat, none⟩)) (ex_at 24 (.pointer (some ⟨gb95, 0, none⟩)) (.int .i64 x3_0) (.pointer (some ⟨gb95, x3_0.toNat, none⟩)) (fun w_ => (run_atv 22 uT24 sT22.size gb95 0 x3_0 hc100.out hc99.out w_).trans (by simp)) _ _ rfl rfl rfl) rfl ?_)
              | ((with_reducible refine gate_d (N := 10) rfl ?_); refine ag_fix (.int .i8 (nt a0 x3_0.toNat 0)) (ex_get sT22 gb95 (x3_0.toNat) (.int .i8 (nt a0 x3_0.toNat 0)) ((bv a0)) BKb95.out (av_get 0 (by have h_ : a0.length = 64 := (by first | rfl | (simp only [List.length_set, List.length_replicate, zL_len, List.length_cons, List.length_nil, LN_a0.out]; done) | (simp [zL_len, LN_a0.out]; done)); have h1_ := hc100.out; have h2_ := hc99.out; omega)) _ rfl rfl) rfl ?_))
            (try simp only [Act.put, List.setIfInBounds_toArray, List.set_cons_zero, List.set_cons_succ])
            go_roundg k98
            case measure => have := HK97.out; omega
            case rel => exact ⟨wrap64 (x3_0 + 1), (by first | rfl | (simp; done) | (simp [*]; done)), H', (hid (by first | omega | (have := HK97.out; omega))), (hid (by exact BKb95.out)), HL⟩
          · rw [if_neg c101] at H
            have c101b0 : ((nt a0 x3_0.toNat 0) == 0) = false := beq_eq_false_iff_ne.mpr c101
            have c101b1 : ((nt a0 x3_0.toNat 0) != 0) = true := bne_iff_ne.mpr c101
            have hc101 := hid c101
            clear c101
            by_cases c102 : (kindZ (wrap64 (nt a0 x3_0.toNat 0))) = 0
            · rw [if_pos c102] at H
              have c102b0 : ((kindZ (wrap64 (nt a0 x3_0.toNat 0))) == 0) = true := beq_iff_eq.mpr c102
              have c102b1 : ((kindZ (wrap64 (nt a0 x3_0.toNat 0))) != 0) = false := bne_eq_false_iff_eq.mpr c102
              have hc102 := hid c102
              clear c102
              obtain rfl := Option.some.inj H
              clear H
              have k103 := True.intro
              go_wp2_with (first
                | ((with_reducible refine gate_d (N := 9) rfl ?_); refine ag_fix (.pointer (some ⟨gb95, x3_0.toNat, none⟩)) (ex_at 24 (.pointer (some ⟨gb95, 0, none⟩)) (.int .i64 x3_0) (.pointer (some ⟨gb95, x3_0.toNat, none⟩)) (fun w_ => (run_atv 22 uT24 sT22.size gb95 0 x3_0 hc100.out hc99.out w_).trans (by simp)) _ _ rfl rfl rfl) rfl ?_)
                | ((with_reducible refine gate_d (N := 10) rfl ?_); refine ag_fix (.int .i8 (nt a0 x3_0.toNat 0)) (ex_get sT22 gb95 (x3_0.toNat) (.int .i8 (nt a0 x3_0.toNat 0)) ((bv a0)) BKb95.out (av_get 0 (by have h_ : a0.length = 64 := (by first | rfl | (simp only [List.length_set, List.length_replicate, zL_len, List.length_cons, List.length_nil, LN_a0.out]; done) | (simp [zL_len, LN_a0.out]; done)); have h1_ := hc100.out; have h2_ := hc99.out; omega)) _ rfl rfl) rfl ?_)
                | ((with_reducible refine gate_d (N := 14) rfl ?_); refine ag_fix (.pointer (some ⟨gb95, x3_0.toNat, none⟩)) (ex_at 24 (.pointer (some ⟨gb95, 0, none⟩)) (.int .i64 x3_0) (.pointer (some ⟨gb95, x3_0.toNat, none⟩)) (fun w_ => (run_atv 22 uT24 sT22.size gb95 0 x3_0 hc100.out hc99.out w_).trans (by simp)) _ _ rfl rfl rfl) rfl ?_)
                | ((with_reducible refine gate_d (N := 15) rfl ?_); refine ag_fix (.int .i8 (nt a0 x3_0.toNat 0)) (ex_get sT22 gb95 (x3_0.toNat) (.int .i8 (nt a0 x3_0.toNat 0)) ((bv a0)) BKb95.out (av_get 0 (by have h_ : a0.length = 64 := (by first | rfl | (simp only [List.length_set, List.length_replicate, zL_len, List.length_cons, List.length_nil, LN_a0.out]; done) | (simp [zL_len, LN_a0.out]; done)); have h1_ := hc100.out; have h2_ := hc99.out; omega)) _ rfl rfl) rfl ?_)
                | (go_at_call 25; clear k103; refine (rKind (wrap64 (nt a0 x3_0.toNat 0)) _).mono ?_; rintro e_ w' ⟨rfl, rfl⟩))
              (try simp only [Act.put, List.setIfInBounds_toArray, List.set_cons_zero, List.set_cons_succ])
              go_ret
              exact ⟨by first | rfl | (simp; done) | (simp [*]; done), HL.out⟩
            · rw [if_neg c102] at H
              have c102b0 : ((kindZ (wrap64 (nt a0 x3_0.toNat 0))) == 0) = false := beq_eq_false_iff_ne.mpr c102
              have c102b1 : ((kindZ (wrap64 (nt a0 x3_0.toNat 0))) != 0) = true := bne_iff_ne.mpr c102
              have hc102 := hid c102
              clear c102
              have H' := hid H
              clear H
              have k104 := True.intro
              go_wp2_with (first
                | ((with_reducible refine gate_d (N := 9) rfl ?_); refine ag_fix (.pointer (some ⟨gb95, x3_0.toNat, none⟩)) (ex_at 24 (.pointer (some ⟨gb95, 0, none⟩)) (.int .i64 x3_0) (.pointer (some ⟨gb95, x3_0.toNat, none⟩)) (fun w_ => (run_atv 22 uT24 sT22.size gb95 0 x3_0 hc100.out hc99.out w_).trans (by simp)) _ _ rfl rfl rfl) rfl ?_)
                | ((with_reducible refine gate_d (N := 10) rfl ?_); refine ag_fix (.int .i8 (nt a0 x3_0.toNat 0)) (ex_get sT22 gb95 (x3_0.toNat) (.int .i8 (nt a0 x3_0.toNat 0)) ((bv a0)) BKb95.out (av_get 0 (by have h_ : a0.length = 64 := (by first | rfl | (simp only [List.length_set, List.length_replicate, zL_len, List.length_cons, List.length_nil, LN_a0.out]; done) | (simp [zL_len, LN_a0.out]; done)); have h1_ := hc100.out; have h2_ := hc99.out; omega)) _ rfl rfl) rfl ?_)
                | ((with_reducible refine gate_d (N := 14) rfl ?_); refine ag_fix (.pointer (some ⟨gb95, x3_0.toNat, none⟩)) (ex_at 24 (.pointer (some ⟨gb95, 0, none⟩)) (.int .i64 x3_0) (.pointer (some ⟨gb95, x3_0.toNat, none⟩)) (fun w_ => (run_atv 22 uT24 sT22.size gb95 0 x3_0 hc100.out hc99.out w_).trans (by simp)) _ _ rfl rfl rfl) rfl ?_)
                | ((with_reducible refine gate_d (N := 15) rfl ?_); refine ag_fix (.int .i8 (nt a0 x3_0.toNat 0)) (ex_get sT22 gb95 (x3_0.toNat) (.int .i8 (nt a0 x3_0.toNat 0)) ((bv a0)) BKb95.out (av_get 0 (by have h_ : a0.length = 64 := (by first | rfl | (simp only [List.length_set, List.length_replicate, zL_len, List.length_cons, List.length_nil, LN_a0.out]; done) | (simp [zL_len, LN_a0.out]; done)); have h1_ := hc100.out; have h2_ := hc99.out; omega)) _ rfl rfl) rfl ?_)
                | (go_at_call 25; clear k104; refine (rKind (wrap64 (nt a0 x3_0.toNat 0)) _).mono ?_; rintro e_ w' ⟨rfl, rfl⟩))
              (try simp only [Act.put, List.setIfInBounds_toArray, List.set_cons_zero, List.set_cons_succ])
              go_roundg k98
              case measure => have := HK97.out; omega
              case rel => exact ⟨wrap64 (x3_0 + 1), (by first | rfl | (simp; done) | (simp [*]; done)), H', (hid (by first | omega | (have := HK97.out; omega))), (hid (by exact BKb95.out)), HL⟩
        · rw [if_neg c100] at H
          exact absurd H (by simp)
      · rw [if_neg c99] at H
        have c99b0 : decide (x3_0 < 64) = false := decide_eq_false c99
        have hc99 := hid c99
        clear c99
        obtain rfl := Option.some.inj H
        clear H
        go_wp2_with fail
        (try simp only [Act.put, List.setIfInBounds_toArray, List.set_cons_zero, List.set_cons_succ])
        go_ret
        exact ⟨by first | rfl | (simp; done) | (simp [*]; done), HL.out⟩
end Go.Proofs.Ytpgdcpkggmkooaa
