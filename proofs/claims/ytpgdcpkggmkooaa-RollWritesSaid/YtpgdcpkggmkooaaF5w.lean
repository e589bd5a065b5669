/- The walks of boards and lists of squares. -/
import Derived.Test.YtpgdcpkggmkooaaProg
import Derived.Test.YtpgdcpkggmkooaaFw
namespace Go.Proofs.Ytpgdcpkggmkooaa
open Go.RowKit
set_option linter.unusedVariables false
set_option linter.unusedSimpArgs false
theorem eT43_info : (Try.prog.info? 3).map (fun i => (i.zero, i.size, i.bytes)) = some (some (.int .i64 0), 1, 8) := by kernel_rfl
theorem eT43 : ElemT Try.prog 43 3 8 := ⟨by kernel_rfl, by
  obtain ⟨i, h1, h2, h3, h4⟩ := info_parts eT43_info
  exact ⟨i, _, h1, h2, h3, h4, rfl⟩⟩
theorem us43 : Try.prog.underlying 43 = some (.slice 3) := by kernel_rfl
/-! i_board_Where: function 29 -/
def i_board_Where.l0 : Nat → List Int → Int → List Int → Int → Option ((List Int))
  | 0, _, _, _, _ => none
  | k + 1, a0, a1, x5_0, x9_0 => if x9_0 < 64 then (if 0 ≤ x9_0 then (if (wrap64 (nt a0 x9_0.toNat 0)) = a1 then (if x5_0.length < 17592186044416 then (i_board_Where.l0 k a0 a1 (x5_0 ++ [x9_0]) (wrap64 (x9_0 + 1))) else (none)) else (i_board_Where.l0 k a0 a1 x5_0 (wrap64 (x9_0 + 1)))) else (none)) else (some x5_0)
def i_board_Where.f (k : Nat) (a0 : List Int) (a1 : Int) : Option ((List Int)) := i_board_Where.l0 k a0 a1 ([] : List Int) 0
def i_board_Where.post (r1 : List Int) (w : World) (e : Ending) (w' : World) : Prop := ∃ (u_r1 : Value), e = .returned (u_r1) ∧ Own w' w.heap.size 3 u_r1 (r1.map (Value.int .i64)) ∧ Below w.heap.size w w'
set_option maxHeartbeats 40000000 in
set_option maxRecDepth 100000 in
theorem i_board_Where.calls (k : Nat) (a0 : List Int) (a1 : Int) (hla0 : a0.length = 64) (r1 : List Int) (w : World) (h : i_board_Where.f k a0 a1 = some r1) :
    Calls Try.prog 29 #[.agg (bv a0), .int .i64 a1] w (i_board_Where.post r1 w) := by
  have LN_a0 := hid hla0
  clear hla0
  have HL := hid (Below.refl w.heap.size w)
  have H : (i_board_Where.l0 k a0 a1 ([] : List Int) 0) = some r1 := h
  clear h
  have H' := hid H
  clear H
  go_enter Try.func29, Try.ntmps29
  go_wp2_with (first
    | ((with_reducible refine gate_d (N := 2) rfl ?_); obtain ⟨gb85, hgb85⟩ : ∃ g_, w.heap.size = g_ := ⟨_, rfl⟩; refine ag_box (bv a0) gb85 hgb85 rfl _ rfl rfl ?_; intro w90 hb_ hB_ hs_; have GEb85 : Hid (w.heap.size ≤ gb85) := hid (by have := HL.out.size; omega); replace HL := hid (HL.out.trans (hb_.mono GEb85.out)); have BKb85 := hid hB_; clear hb_ hB_ hs_ hgb85)
    | ((with_reducible refine gate_d (N := 8) rfl ?_); refine ag_fix (.agg (bv a0)) (ex_load boardT gb85 0 (bv a0) (bv a0) BKb85.out (av_le (by first | rfl | (simp only [List.length_set, List.length_replicate, zL_len, List.length_cons, List.length_nil, LN_a0.out]; done) | (simp [zL_len, LN_a0.out]; done))) (av_ex (by first | rfl | (simp only [List.length_set, List.length_replicate, zL_len, List.length_cons, List.length_nil, LN_a0.out]; done) | (simp [zL_len, LN_a0.out]; done))) _ rfl rfl) rfl ?_))
  (try simp only [Act.put, List.setIfInBounds_toArray, List.set_cons_zero, List.set_cons_succ])
  go_loopg [5, 9] k (fun kq v5 v9 w' => ∃ (x5_0 : List Int) (ux5_0 : Value) (x9_0 : Int), ux5_0 = v5 ∧ v9 = .int .i64 x9_0 ∧ Hid (i_board_Where.l0 kq a0 a1 x5_0 x9_0 = some r1) ∧ Hid (kq ≤ k) ∧ Hid (Blk w' gb85 24 (bv a0)) ∧ Hid (Own w' w.heap.size 3 (ux5_0) (x5_0.map (Value.int .i64))) ∧ Hid (Below w.heap.size w w'))
  case atStart => exact ⟨([] : List Int), (.slice none 0 0), (0 : Int), (by first | rfl | (simp; done) | (simp [*]; done)), (by first | rfl | (simp; done) | (simp [*]; done)), H', (hid (by first | omega | (omega))), (hid (by exact BKb85.out)), (hid (Own.nil _ _ _)), HL⟩
  case round =>
    clear H'
    clear HL BKb85
    obtain ⟨x5_0, ux5_0, x9_0, rfl, rfl, HA, HK91, BKb85, SWx5_0, HL⟩ := hrel
    cases gk with
    | zero => exact absurd HA.out (by simp [i_board_Where.l0])
    | succ k92 =>
      have H := HA.out
      clear HA
      simp only [i_board_Where.l0] at H
      by_cases c93 : x9_0 < 64
      · rw [if_pos c93] at H
        have c93b0 : decide (x9_0 < 64) = true := decide_eq_true c93
        have hc93 := hid c93
        clear c93
        by_cases c94 : 0 ≤ x9_0
        · rw [if_pos c94] at H
          have c94b0 : decide (0 ≤ x9_0) = true := decide_eq_true c94
          have hc94 := hid c94
          clear c94
          by_cases c95 : (wrap64 (nt a0 x9_0.toNat 0)) = a1
          · rw [if_pos c95] at H
            have c95b0 : ((wrap64 (nt a0 x9_0.toNat 0)) == a1) = true := beq_iff_eq.mpr c95
            have c95b1 : ((wrap64 (nt a0 x9_0.toNat 0)) != a1) = false := bne_eq_false_iff_eq.mpr c95
            have hc95 := hid c95
            clear c95
            by_cases c96 : x5_0.length < 17592186044416
            · rw [if_pos c96] at H
              have c96b0 : decide (x5_0.length < 17592186044416) = true := decide_eq_true c96
              have hc96 := hid c96
              clear c96
              have H' := hid H
              clear H
              have k99 := True.intro
              go_wp2_with (first
                | ((with_reducible refine gate_d (N := 12) rfl ?_); refine ag_fix (.int .i8 (nt a0 x9_0.toNat 0)) (ex_ix 24 (.agg (bv a0)) (.int .i64 x9_0) (.int .i8 (nt a0 x9_0.toNat 0)) (fun w_ => run_ixv 22 uT24 sT22 a0 (by first | rfl | (simp only [List.length_set, List.length_replicate, zL_len, List.length_cons, List.length_nil, LN_a0.out]; done) | (simp [zL_len, LN_a0.out]; done)) 0 x9_0 hc94.out hc93.out w_) _ _ rfl rfl rfl) rfl ?_)
                | ((with_reducible refine gate_d (N := 19) rfl ?_); obtain ⟨gb88, hgb88⟩ : ∃ g_, wr.heap.size = g_ := ⟨_, rfl⟩; refine ag_lit sT3 (.int .i64 x9_0) gb88 hgb88 rfl _ rfl rfl (fun w_ => by kernel_rfl) ?_; intro w97 hb_ hB_ hs_; have GEb88 : Hid (w.heap.size ≤ gb88) := hid (by have := HL.out.size; omega); have NBb85_b88 : Hid (gb85 ≠ gb88) := hid (by have := BKb85.out.lt; omega); have NBb88_b85 : Hid (gb88 ≠ gb85) := hid (by have := NBb85_b88.out; omega); replace BKb85 := hid (BKb85.out.below hb_ (by rw [← hgb88]; exact BKb85.out.lt)); replace SWx5_0 := hid (SWx5_0.out.below (by rw [hgb88]; exact hb_)); replace HL := hid (HL.out.trans (hb_.mono GEb88.out)); have BKb88 := hid hB_; clear hb_ hB_ hs_ hgb88)
                | (at_builtin; clear k99; refine app_one eT43 w.heap.size (ux5_0) (x5_0.map (Value.int .i64)) (.int .i64 x9_0) gb88 1 SWx5_0.out BKb88.out rfl (by have h_ := hc96.out; rw [List.length_map]; omega) (by have h_ := hc96.out; rw [List.length_map]; unfold maxLen; omega) HL.out.size rfl _ _ rfl rfl rfl ?_; intro uo89 w98 ho_ hb_ hk_ hi_; clear SWx5_0; have SWo89 : Hid (Own w98 w.heap.size 3 (uo89) ((x5_0 ++ [x9_0]).map (Value.int .i64))) := hid (by rw [List.map_append]; exact ho_); replace BKb85 := hid (hk_ _ _ _ (by decide) BKb85.out); replace HL := hid (HL.out.trans hb_); clear ho_ hb_ hk_ hi_ BKb88))
              (try simp only [Act.put, List.setIfInBounds_toArray, List.set_cons_zero, List.set_cons_succ])
              go_roundg k92
              case measure => have := HK91.out; omega
              case rel => exact ⟨x5_0 ++ [x9_0], (uo89), wrap64 (x9_0 + 1), (by first | rfl | (simp; done) | (simp [*]; done)), (by first | rfl | (simp; done) | (simp [*]; done)), H', (hid (by first | omega | (have := HK91.out; omega))), (hid (by exact BKb85.out)), SWo89, HL⟩
            · rw [if_neg c96] at H
              exact absurd H (by simp)
          · rw [if_neg c95] at H
            have c95b0 : ((wrap64 (nt a0 x9_0.toNat 0)) == a1) = false := beq_eq_false_iff_ne.mpr c95
            have c95b1 : ((wrap64 (nt a0 x9_0.toNat 0)) != a1) = true := bne_iff_ne.mpr c95
            have hc95 := hid c95
            clear c95
            have H' := hid H
            clear H
            go_wp2_with (first
              | ((with_reducible refine gate_d (N := 12) rfl ?_); refine ag_fix (.int .i8 (nt a0 x9_0.toNat 0)) (ex_ix 24 (.agg (bv a0)) (.int .i64 x9_0) (.int .i8 (nt a0 x9_0.toNat 0)) (fun w_ => run_ixv 22 uT24 sT22 a0 (by first | rfl | (simp only [List.length_set, List.length_replicate, zL_len, List.length_cons, List.length_nil, LN_a0.out]; done) | (simp [zL_len, LN_a0.out]; done)) 0 x9_0 hc94.out hc93.out w_) _ _ rfl rfl rfl) rfl ?_))
            (try simp only [Act.put, List.setIfInBounds_toArray, List.set_cons_zero, List.set_cons_succ])
            go_roundg k92
            case measure => have := HK91.out; omega
            case rel => exact ⟨x5_0, (ux5_0), wrap64 (x9_0 + 1), (by first | rfl | (simp; done) | (simp [*]; done)), (by first | rfl | (simp; done) | (simp [*]; done)), H', (hid (by first | omega | (have := HK91.out; omega))), (hid (by exact BKb85.out)), SWx5_0, HL⟩
        · rw [if_neg c94] at H
          exact absurd H (by simp)
      · rw [if_neg c93] at H
        have c93b0 : decide (x9_0 < 64) = false := decide_eq_false c93
        have hc93 := hid c93
        clear c93
        obtain rfl := Option.some.inj H
        clear H
        go_wp2_with fail
        (try simp only [Act.put, List.setIfInBounds_toArray, List.set_cons_zero, List.set_cons_succ])
        go_ret
        exact ⟨_, rfl, (by exact SWx5_0.out), HL.out⟩
/-! i_alfilref03_Where: function 32 -/
def i_alfilref03_Where.l0 : Nat → List Int → Int → List Int → Int → Option ((List Int))
  | 0, _, _, _, _ => none
  | k + 1, a0, a1, x5_0, x6_0 => if x6_0 < 64 then (if 0 ≤ x6_0 then (if (wrap64 (nt a0 x6_0.toNat 0)) = a1 then (if x5_0.length < 17592186044416 then (i_alfilref03_Where.l0 k a0 a1 (x5_0 ++ [x6_0]) (wrap64 (x6_0 + 1))) else (none)) else (i_alfilref03_Where.l0 k a0 a1 x5_0 (wrap64 (x6_0 + 1)))) else (none)) else (some x5_0)
def i_alfilref03_Where.f (k : Nat) (a0 : List Int) (a1 : Int) : Option ((List Int)) := i_alfilref03_Where.l0 k a0 a1 ([] : List Int) 0
def i_alfilref03_Where.post (r1 : List Int) (w : World) (e : Ending) (w' : World) : Prop := ∃ (u_r1 : Value), e = .returned (u_r1) ∧ Own w' w.heap.size 3 u_r1 (r1.map (Value.int .i64)) ∧ Below w.heap.size w w'
set_option maxHeartbeats 40000000 in
set_option maxRecDepth 100000 in
theorem i_alfilref03_Where.calls (k : Nat) (a0 : List Int) (a1 : Int) (hla0 : a0.length = 64) (r1 : List Int) (w : World) (h : i_alfilref03_Where.f k a0 a1 = some r1) :
    Calls Try.prog 32 #[.agg (bv a0), .int .i64 a1] w (i_alfilref03_Where.post r1 w) := by
  have LN_a0 := hid hla0
  clear hla0
  have HL := hid (Below.refl w.heap.size w)
  have H : (i_alfilref03_Where.l0 k a0 a1 ([] : List Int) 0) = some r1 := h
  clear h
  have H' := hid H
  clear H
  go_enter Try.func32, Try.ntmps32
  go_wp2_with (first
    | ((with_reducible refine gate_d (N := 2) rfl ?_); obtain ⟨gb100, hgb100⟩ : ∃ g_, w.heap.size = g_ := ⟨_, rfl⟩; refine ag_box (bv a0) gb100 hgb100 rfl _ rfl rfl ?_; intro w105 hb_ hB_ hs_; have GEb100 : Hid (w.heap.size ≤ gb100) := hid (by have := HL.out.size; omega); replace HL := hid (HL.out.trans (hb_.mono GEb100.out)); have BKb100 := hid hB_; clear hb_ hB_ hs_ hgb100))
  (try simp only [Act.put, List.setIfInBounds_toArray, List.set_cons_zero, List.set_cons_succ])
  go_loopg [5, 6] k (fun kq v5 v6 w' => ∃ (x5_0 : List Int) (ux5_0 : Value) (x6_0 : Int), ux5_0 = v5 ∧ v6 = .int .i64 x6_0 ∧ Hid (i_alfilref03_Where.l0 kq a0 a1 x5_0 x6_0 = some r1) ∧ Hid (kq ≤ k) ∧ Hid (Blk w' gb100 24 (bv a0)) ∧ Hid (Own w' w.heap.size 3 (ux5_0) (x5_0.map (Value.int .i64))) ∧ Hid (Below w.heap.size w w'))
  case atStart => exact ⟨([] : List Int), (.slice none 0 0), (0 : Int), (by first | rfl | (simp; done) | (simp [*]; done)), (by first | rfl | (simp; done) | (simp [*]; done)), H', (hid (by first | omega | (omega))), (hid (by exact BKb100.out)), (hid (Own.nil _ _ _)), HL⟩
  case round =>
    clear H'
    clear HL BKb100
    obtain ⟨x5_0, ux5_0, x6_0, rfl, rfl, HA, HK106, BKb100, SWx5_0, HL⟩ := hrel
    cases gk with
    | zero => exact absurd HA.out (by simp [i_alfilref03_Where.l0])
    | succ k107 =>
      have H := HA.out
      clear HA
      simp only [i_alfilref03_Where.l0] at H
      by_cases c108 : x6_0 < 64
      · rw [if_pos c108] at H
        have c108b0 : decide (x6_0 < 64) = true := decide_eq_true c108
        have hc108 := hid c108
        clear c108
        by_cases c109 : 0 ≤ x6_0
        · rw [if_pos c109] at H
          have c109b0 : decide (0 ≤ x6_0) = true := decide_eq_true c109
          have hc109 := hid c109
          clear c109
          by_cases c110 : (wrap64 (nt a0 x6_0.toNat 0)) = a1
          · rw [if_pos c110] at H
            have c110b0 : ((wrap64 (nt a0 x6_0.toNat 0)) == a1) = true := beq_iff_eq.mpr c110
            have c110b1 : ((wrap64 (nt a0 x6_0.toNat 0)) != a1) = false := bne_eq_false_iff_eq.mpr c110
            have hc110 := hid c110
            clear c110
            by_cases c111 : x5_0.length < 17592186044416
            · rw [if_pos c111] at H
              have c111b0 : decide (x5_0.length < 17592186044416) = true := decide_eq_true c111
              have hc111 := hid c111
              clear c111
              have H' := hid H
              clear H
              have k114 := True.intro
              go_wp2_with (first
                | ((with_reducible refine gate_d (N := 12) rfl ?_); refine ag_fix (.pointer (some ⟨gb100, x6_0.toNat, none⟩)) (ex_at 24 (.pointer (some ⟨gb100, 0, none⟩)) (.int .i64 x6_0) (.pointer (some ⟨gb100, x6_0.toNat, none⟩)) (fun w_ => (run_atv 22 uT24 sT22.size gb100 0 x6_0 hc109.out hc108.out w_).trans (by simp)) _ _ rfl rfl rfl) rfl ?_)
                | ((with_reducible refine gate_d (N := 13) rfl ?_); refine ag_fix (.int .i8 (nt a0 x6_0.toNat 0)) (ex_get sT22 gb100 (x6_0.toNat) (.int .i8 (nt a0 x6_0.toNat 0)) ((bv a0)) BKb100.out (av_get 0 (by have h_ : a0.length = 64 := (by first | rfl | (simp only [List.length_set, List.length_replicate, zL_len, List.length_cons, List.length_nil, LN_a0.out]; done) | (simp [zL_len, LN_a0.out]; done)); have h1_ := hc109.out; have h2_ := hc108.out; omega)) _ rfl rfl) rfl ?_)
                | ((with_reducible refine gate_d (N := 19) rfl ?_); obtain ⟨gb103, hgb103⟩ : ∃ g_, wr.heap.size = g_ := ⟨_, rfl⟩; refine ag_lit sT3 (.int .i64 x6_0) gb103 hgb103 rfl _ rfl rfl (fun w_ => by kernel_rfl) ?_; intro w112 hb_ hB_ hs_; have GEb103 : Hid (w.heap.size ≤ gb103) := hid (by have := HL.out.size; omega); have NBb100_b103 : Hid (gb100 ≠ gb103) := hid (by have := BKb100.out.lt; omega); have NBb103_b100 : Hid (gb103 ≠ gb100) := hid (by have := NBb100_b103.out; omega); replace BKb100 := hid (BKb100.out.below hb_ (by rw [← hgb103]; exact BKb100.out.lt)); replace SWx5_0 := hid (SWx5_0.out.below (by rw [hgb103]; exact hb_)); replace HL := hid (HL.out.trans (hb_.mono GEb103.out)); have BKb103 := hid hB_; clear hb_ hB_ hs_ hgb103)
                | (at_builtin; clear k114; refine app_one eT43 w.heap.size (ux5_0) (x5_0.map (Value.int .i64)) (.int .i64 x6_0) gb103 1 SWx5_0.out BKb103.out rfl (by have h_ := hc111.out; rw [List.length_map]; omega) (by have h_ := hc111.out; rw [List.length_map]; unfold maxLen; omega) HL.out.size rfl _ _ rfl rfl rfl ?_; intro uo104 w113 ho_ hb_ hk_ hi_; clear SWx5_0; have SWo104 : Hid (Own w113 w.heap.size 3 (uo104) ((x5_0 ++ [x6_0]).map (Value.int .i64))) := hid (by rw [List.map_append]; exact ho_); replace BKb100 := hid (hk_ _ _ _ (by decide) BKb100.out); replace HL := hid (HL.out.trans hb_); clear ho_ hb_ hk_ hi_ BKb103))
              (try simp only [Act.put, List.setIfInBounds_toArray, List.set_cons_zero, List.set_cons_succ])
              go_roundg k107
              case measure => have := HK106.out; omega
              case rel => exact ⟨x5_0 ++ [x6_0], (uo104), wrap64 (x6_0 + 1), (by first | rfl | (simp; done) | (simp [*]; done)), (by first | rfl | (simp; done) | (simp [*]; done)), H', (hid (by first | omega | (have := HK106.out; omega))), (hid (by exact BKb100.out)), SWo104, HL⟩
            · rw [if_neg c111] at H
              exact absurd H (by simp)
          · rw [if_neg c110] at H
            have c110b0 : ((wrap64 (nt a0 x6_0.toNat 0)) == a1) = false := beq_eq_false_iff_ne.mpr c110
            have c110b1 : ((wrap64 (nt a0 x6_0.toNat 0)) != a1) = true := bne_iff_ne.mpr c110
            have hc110 := hid c110
            clear c110
            have H' := hid H
            clear H
            go_wp2_with (first
              | ((with_reducible refine gate_d (N := 12) rfl ?_); refine ag_fix (.pointer (some ⟨gb100, x6_0.toNat, none⟩)) (ex_at 24 (.pointer (some ⟨gb100, 0, none⟩)) (.int .i64 x6_0) (.pointer (some ⟨gb100, x6_0.toNat, none⟩)) (fun w_ => (run_atv 22 uT24 sT22.size gb100 0 x6_0 hc109.out hc108.out w_).trans (by simp)) _ _ rfl rfl rfl) rfl ?_)
              | ((with_reducible refine gate_d (N := 13) rfl ?_); refine ag_fix (.int .i8 (nt a0 x6_0.toNat 0)) (ex_get sT22 gb100 (x6_0.toNat) (.int .i8 (nt a0 x6_0.toNat 0)) ((bv a0)) BKb100.out (av_get 0 (by have h_ : a0.length = 64 := (by first | rfl | (simp only [List.length_set, List.length_replicate, zL_len, List.length_cons, List.length_nil, LN_a0.out]; done) | (simp [zL_len, LN_a0.out]; done)); have h1_ := hc109.out; have h2_ := hc108.out; omega)) _ rfl rfl) rfl ?_))
            (try simp only [Act.put, List.setIfInBounds_toArray, List.set_cons_zero, List.set_cons_succ])
            go_roundg k107
            case measure => have := HK106.out; omega
            case rel => exact ⟨x5_0, (ux5_0), wrap64 (x6_0 + 1), (by first | rfl | (simp; done) | (simp [*]; done)), (by first | rfl | (simp; done) | (simp [*]; done)), H', (hid (by first | omega | (have := HK106.out; omega))), (hid (by exact BKb100.out)), SWx5_0, HL⟩
        · rw [if_neg c109] at H
          exact absurd H (by simp)
      · rw [if_neg c108] at H
        have c108b0 : decide (x6_0 < 64) = false := decide_eq_false c108
        have hc108 := hid c108
        clear c108
        obtain rfl := Option.some.inj H
        clear H
        go_wp2_with fail
        (try simp only [Act.put, List.setIfInBounds_toArray, List.set_cons_zero, List.set_cons_succ])
        go_ret
        exact ⟨_, rfl, (by exact SWx5_0.out), HL.out⟩
/-! i_alfilref01_Same: function 31 -/
def i_alfilref01_Same.l0 : Nat → List Int → List Int → Int → Option (Bool)
  | 0, _, _, _ => none
  | k + 1, a0, a1, x5_0 => if x5_0 < (a0.length : Int) then (if 0 ≤ x5_0 then (if x5_0 < (a1.length : Int) then (if (nt a0 x5_0.toNat 0) = (nt a1 x5_0.toNat 0) then (i_alfilref01_Same.l0 k a0 a1 (wrap64 (x5_0 + 1))) else (some false)) else (none)) else (none)) else (some true)
def i_alfilref01_Same.f (k : Nat) (a0 : List Int) (a1 : List Int) : Option (Bool) := if (a0.length : Int) = (a1.length : Int) then (i_alfilref01_Same.l0 k a0 a1 0) else (some false)
set_option maxHeartbeats 40000000 in
set_option maxRecDepth 100000 in
theorem i_alfilref01_Same.calls (k : Nat) (v0_ : Value) (a0 : List Int) (v1_ : Value) (a1 : List Int) (r1 : Bool) (w : World) (hs0 : Sl w v0_ (a0.map (Value.int .i64))) (hs1 : Sl w v1_ (a1.map (Value.int .i64))) (h : i_alfilref01_Same.f k a0 a1 = some r1) :
    Calls Try.prog 31 #[v0_, v1_] w fun e w' => e = .returned (.bool r1) ∧ Below w.heap.size w w' := by
  have HL := hid (Below.refl w.heap.size w)
  have SP0 := hid hs0
  clear hs0
  have SP1 := hid hs1
  clear hs1
  have H : (if (a0.length : Int) = (a1.length : Int) then (i_alfilref01_Same.l0 k a0 a1 0) else (some false)) = some r1 := h
  clear h
  by_cases c119 : (a0.length : Int) = (a1.length : Int)
  · rw [if_pos c119] at H
    have c119b0 : ((a0.length : Int) == (a1.length : Int)) = true := beq_iff_eq.mpr c119
    have c119b1 : ((a0.length : Int) != (a1.length : Int)) = false := bne_eq_false_iff_eq.mpr c119
    have c119b2 : (a0.length == a1.length) = true := by first | simpa using c119 | (simp at c119 ⊢; omega)
    have hc119 := hid c119
    clear c119
    have H' := hid H
    clear H
    go_enter Try.func31, Try.ntmps31
    go_wp2_with (first
      | ((with_reducible refine gate_d (N := 7) rfl ?_); obtain ⟨A120, c121, hv122⟩ := (SP0.out.below HL.out).shape; rw [List.length_map] at hv122; refine ag_fix (.int .i64 (a0.length : Int)) (ex_len us43 _ _ _ _ hv122 _ rfl rfl) rfl ?_; clear hv122)
      | ((with_reducible refine gate_d (N := 9) rfl ?_); obtain ⟨A123, c124, hv125⟩ := (SP1.out.below HL.out).shape; rw [List.length_map] at hv125; refine ag_fix (.int .i64 (a1.length : Int)) (ex_len us43 _ _ _ _ hv125 _ rfl rfl) rfl ?_; clear hv125))
    (try simp only [Act.put, List.setIfInBounds_toArray, List.set_cons_zero, List.set_cons_succ])
    go_loopg [5] k (fun kq v5 w' => ∃ (x5_0 : Int), v5 = .int .i64 x5_0 ∧ Hid (i_alfilref01_Same.l0 kq a0 a1 x5_0 = some r1) ∧ Hid (kq ≤ k) ∧ Hid (Below w.heap.size w w'))
    case atStart => exact ⟨(0 : Int), (by first | rfl | (simp; done) | (simp [*]; done)), H', (hid (by first | omega | (omega))), HL⟩
    case round =>
      clear H'
      clear HL
      obtain ⟨x5_0, rfl, HA, HK126, HL⟩ := hrel
      cases gk with
      | zero => exact absurd HA.out (by simp [i_alfilref01_Same.l0])
      | succ k127 =>
        have H := HA.out
        clear HA
        simp only [i_alfilref01_Same.l0] at H
        by_cases c128 : x5_0 < (a0.length : Int)
        · rw [if_pos c128] at H
          have c128b0 : decide (x5_0 < (a0.length : Int)) = true := decide_eq_true c128
          have hc128 := hid c128
          clear c128
          by_cases c129 : 0 ≤ x5_0
          · rw [if_pos c129] at H
            have c129b0 : decide (0 ≤ x5_0) = true := decide_eq_true c129
            have hc129 := hid c129
            clear c129
            by_cases c130 : x5_0 < (a1.length : Int)
            · rw [if_pos c130] at H
              have c130b0 : decide (x5_0 < (a1.length : Int)) = true := decide_eq_true c130
              have hc130 := hid c130
              clear c130
              by_cases c131 : (nt a0 x5_0.toNat 0) = (nt a1 x5_0.toNat 0)
              · rw [if_pos c131] at H
                have c131b0 : ((nt a0 x5_0.toNat 0) == (nt a1 x5_0.toNat 0)) = true := beq_iff_eq.mpr c131
                have c131b1 : ((nt a0 x5_0.toNat 0) != (nt a1 x5_0.toNat 0)) = false := bne_eq_false_iff_eq.mpr c131
                have hc131 := hid c131
                clear c131
                have H' := hid H
                clear H
                go_wp2_with (first
                  | ((with_reducible refine gate_d (N := 13) rfl ?_); obtain ⟨A132, c133, hv134⟩ := (SP0.out.below HL.out).shape; rw [List.length_map] at hv134; refine ag_fix (.int .i64 (a0.length : Int)) (ex_len us43 _ _ _ _ hv134 _ rfl rfl) rfl ?_; clear hv134))
                (try simp only [Act.put, List.setIfInBounds_toArray, List.set_cons_zero, List.set_cons_succ])
                obtain ⟨ad117, c_19, hv_19, hc_19⟩ := Sl.get (l := a0) (f := (Value.int .i64)) (SP0.out.below HL.out) 0 (i := x5_0) hc129.out hc128.out
                have HV_19 := hid hv_19
                have HCad117 := hid hc_19
                clear hv_19 hc_19
                obtain ⟨ad118, c_23, hv_23, hc_23⟩ := Sl.get (l := a1) (f := (Value.int .i64)) (SP1.out.below HL.out) 0 (i := x5_0) hc129.out hc130.out
                have HV_23 := hid hv_23
                have HCad118 := hid hc_23
                clear hv_23 hc_23
                have WR64 := i64_w
                have WR32 := i32_w
                refine up_regionW (by kernel_rfl) (by kernel_rfl) ?_
                refine q_do (v0_) (fun w'_ hc_ => ex_mv (.tmp 0) (.inl rfl) _ rfl) rfl rfl ?_
                intro ts_ ht_; simp only [List.setIfInBounds_toArray, List.set_cons_zero, List.set_cons_succ] at ht_; subst ht_
                refine q_do (.int .i64 x5_0) (fun w'_ hc_ => ex_mv (.tmp 5) (.inl rfl) _ rfl) rfl rfl ?_
                intro ts_ ht_; simp only [List.setIfInBounds_toArray, List.set_cons_zero, List.set_cons_succ] at ht_; subst ht_
                refine q_do (.pointer (some (ad117.add x5_0.toNat))) (fun w'_ hc_ => by obtain ⟨n_, hn_⟩ := hc_; exact ex_sat _ _ x5_0 _ _ HV_19.out hc129.out hc128.out us43 sT3 _ _ rfl rfl rfl) rfl rfl ?_
                intro ts_ ht_; simp only [List.setIfInBounds_toArray, List.set_cons_zero, List.set_cons_succ] at ht_; subst ht_
                refine q_do (.int .i64 (nt a0 x5_0.toNat 0)) (fun w'_ hc_ => by obtain ⟨n_, hn_⟩ := hc_; exact ex_scell sT3 _ _ (by rw [hn_]; exact (n_.below.cell (World.block_lt_of_cell? _ _ HCad117.out)).trans HCad117.out) _ rfl rfl) rfl rfl ?_
                intro ts_ ht_; simp only [List.setIfInBounds_toArray, List.set_cons_zero, List.set_cons_succ] at ht_; subst ht_
                refine q_do (v1_) (fun w'_ hc_ => ex_mv (.tmp 1) (.inl rfl) _ rfl) rfl rfl ?_
                intro ts_ ht_; simp only [List.setIfInBounds_toArray, List.set_cons_zero, List.set_cons_succ] at ht_; subst ht_
                refine q_do (.int .i64 x5_0) (fun w'_ hc_ => ex_mv (.tmp 5) (.inl rfl) _ rfl) rfl rfl ?_
                intro ts_ ht_; simp only [List.setIfInBounds_toArray, List.set_cons_zero, List.set_cons_succ] at ht_; subst ht_
                refine q_do (.pointer (some (ad118.add x5_0.toNat))) (fun w'_ hc_ => by obtain ⟨n_, hn_⟩ := hc_; exact ex_sat _ _ x5_0 _ _ HV_23.out hc129.out hc130.out us43 sT3 _ _ rfl rfl rfl) rfl rfl ?_
                intro ts_ ht_; simp only [List.setIfInBounds_toArray, List.set_cons_zero, List.set_cons_succ] at ht_; subst ht_
                refine q_do (.int .i64 (nt a1 x5_0.toNat 0)) (fun w'_ hc_ => by obtain ⟨n_, hn_⟩ := hc_; exact ex_scell sT3 _ _ (by rw [hn_]; exact (n_.below.cell (World.block_lt_of_cell? _ _ HCad118.out)).trans HCad118.out) _ rfl rfl) rfl rfl ?_
                intro ts_ ht_; simp only [List.setIfInBounds_toArray, List.set_cons_zero, List.set_cons_succ] at ht_; subst ht_
                refine q_do (.bool false) (fun w'_ hc_ => by go_simp) rfl rfl ?_
                intro ts_ ht_; simp only [List.setIfInBounds_toArray, List.set_cons_zero, List.set_cons_succ] at ht_; subst ht_
                refine q_end ?_
                rintro w8_ ⟨n_, rfl⟩
                replace HL := hid (HL.out.trans (n_.below.mono HL.out.size))
                generalize n_.world = w135 at *
                clear n_ WR64 WR32
                go_wp2_with fail
                (try simp only [Act.put, List.setIfInBounds_toArray, List.set_cons_zero, List.set_cons_succ])
                go_roundg k127
                case measure => have := HK126.out; omega
                case rel => exact ⟨wrap64 (x5_0 + 1), (by first | rfl | (simp; done) | (simp [*]; done)), H', (hid (by first | omega | (have := HK126.out; omega))), HL⟩
              · rw [if_neg c131] at H
                have c131b0 : ((nt a0 x5_0.toNat 0) == (nt a1 x5_0.toNat 0)) = false := beq_eq_false_iff_ne.mpr c131
                have c131b1 : ((nt a0 x5_0.toNat 0) != (nt a1 x5_0.toNat 0)) = true := bne_iff_ne.mpr c131
                have hc131 := hid c131
                clear c131
                obtain rfl := Option.some.inj H
                clear H
                go_wp2_with (first
                  | ((with_reducible refine gate_d (N := 13) rfl ?_); obtain ⟨A136, c137, hv138⟩ := (SP0.out.below HL.out).shape; rw [List.length_map] at hv138; refine ag_fix (.int .i64 (a0.length : Int)) (ex_len us43 _ _ _ _ hv138 _ rfl rfl) rfl ?_; clear hv138))
                (try simp only [Act.put, List.setIfInBounds_toArray, List.set_cons_zero, List.set_cons_succ])
                obtain ⟨ad117, c_19, hv_19, hc_19⟩ := Sl.get (l := a0) (f := (Value.int .i64)) (SP0.out.below HL.out) 0 (i := x5_0) hc129.out hc128.out
                have HV_19 := hid hv_19
                have HCad117 := hid hc_19
                clear hv_19 hc_19
                obtain ⟨ad118, c_23, hv_23, hc_23⟩ := Sl.get (l := a1) (f := (Value.int .i64)) (SP1.out.below HL.out) 0 (i := x5_0) hc129.out hc130.out
                have HV_23 := hid hv_23
                have HCad118 := hid hc_23
                clear hv_23 hc_23
                have WR64 := i64_w
                have WR32 := i32_w
                refine up_regionW (by kernel_rfl) (by kernel_rfl) ?_
                refine q_do (v0_) (fun w'_ hc_ => ex_mv (.tmp 0) (.inl rfl) _ rfl) rfl rfl ?_
                intro ts_ ht_; simp only [List.setIfInBounds_toArray, List.set_cons_zero, List.set_cons_succ] at ht_; subst ht_
                refine q_do (.int .i64 x5_0) (fun w'_ hc_ => ex_mv (.tmp 5) (.inl rfl) _ rfl) rfl rfl ?_
                intro ts_ ht_; simp only [List.setIfInBounds_toArray, List.set_cons_zero, List.set_cons_succ] at ht_; subst ht_
                refine q_do (.pointer (some (ad117.add x5_0.toNat))) (fun w'_ hc_ => by obtain ⟨n_, hn_⟩ := hc_; exact ex_sat _ _ x5_0 _ _ HV_19.out hc129.out hc128.out us43 sT3 _ _ rfl rfl rfl) rfl rfl ?_
                intro ts_ ht_; simp only [List.setIfInBounds_toArray, List.set_cons_zero, List.set_cons_succ] at ht_; subst ht_
                refine q_do (.int .i64 (nt a0 x5_0.toNat 0)) (fun w'_ hc_ => by obtain ⟨n_, hn_⟩ := hc_; exact ex_scell sT3 _ _ (by rw [hn_]; exact (n_.below.cell (World.block_lt_of_cell? _ _ HCad117.out)).trans HCad117.out) _ rfl rfl) rfl rfl ?_
                intro ts_ ht_; simp only [List.setIfInBounds_toArray, List.set_cons_zero, List.set_cons_succ] at ht_; subst ht_
                refine q_do (v1_) (fun w'_ hc_ => ex_mv (.tmp 1) (.inl rfl) _ rfl) rfl rfl ?_
                intro ts_ ht_; simp only [List.setIfInBounds_toArray, List.set_cons_zero, List.set_cons_succ] at ht_; subst ht_
                refine q_do (.int .i64 x5_0) (fun w'_ hc_ => ex_mv (.tmp 5) (.inl rfl) _ rfl) rfl rfl ?_
                intro ts_ ht_; simp only [List.setIfInBounds_toArray, List.set_cons_zero, List.set_cons_succ] at ht_; subst ht_
                refine q_do (.pointer (some (ad118.add x5_0.toNat))) (fun w'_ hc_ => by obtain ⟨n_, hn_⟩ := hc_; exact ex_sat _ _ x5_0 _ _ HV_23.out hc129.out hc130.out us43 sT3 _ _ rfl rfl rfl) rfl rfl ?_
                intro ts_ ht_; simp only [List.setIfInBounds_toArray, List.set_cons_zero, List.set_cons_succ] at ht_; subst ht_
                refine q_do (.int .i64 (nt a1 x5_0.toNat 0)) (fun w'_ hc_ => by obtain ⟨n_, hn_⟩ := hc_; exact ex_scell sT3 _ _ (by rw [hn_]; exact (n_.below.cell (World.block_lt_of_cell? _ _ HCad118.out)).trans HCad118.out) _ rfl rfl) rfl rfl ?_
                intro ts_ ht_; simp only [List.setIfInBounds_toArray, List.set_cons_zero, List.set_cons_succ] at ht_; subst ht_
                refine q_do (.bool true) (fun w'_ hc_ => by go_simp) rfl rfl ?_
                intro ts_ ht_; simp only [List.setIfInBounds_toArray, List.set_cons_zero, List.set_cons_succ] at ht_; subst ht_
                refine q_end ?_
                rintro w8_ ⟨n_, rfl⟩
                replace HL := hid (HL.out.trans (n_.below.mono HL.out.size))
                generalize n_.world = w139 at *
                clear n_ WR64 WR32
                go_wp2_with fail
                (try simp only [Act.put, List.setIfInBounds_toArray, List.set_cons_zero, List.set_cons_succ])
                go_ret
                exact ⟨by first | rfl | (simp; done) | (simp [*]; done), HL.out⟩
            · rw [if_neg c130] at H
              exact absurd H (by simp)
          · rw [if_neg c129] at H
            exact absurd H (by simp)
        · rw [if_neg c128] at H
          have c128b0 : decide (x5_0 < (a0.length : Int)) = false := decide_eq_false c128
          have hc128 := hid c128
          clear c128
          obtain rfl := Option.some.inj H
          clear H
          go_wp2_with (first
            | ((with_reducible refine gate_d (N := 13) rfl ?_); obtain ⟨A140, c141, hv142⟩ := (SP0.out.below HL.out).shape; rw [List.length_map] at hv142; refine ag_fix (.int .i64 (a0.length : Int)) (ex_len us43 _ _ _ _ hv142 _ rfl rfl) rfl ?_; clear hv142))
          (try simp only [Act.put, List.setIfInBounds_toArray, List.set_cons_zero, List.set_cons_succ])
          go_ret
          exact ⟨by first | rfl | (simp; done) | (simp [*]; done), HL.out⟩
  · rw [if_neg c119] at H
    have c119b0 : ((a0.length : Int) == (a1.length : Int)) = false := beq_eq_false_iff_ne.mpr c119
    have c119b1 : ((a0.length : Int) != (a1.length : Int)) = true := bne_iff_ne.mpr c119
    have c119b2 : (a0.length == a1.length) = false := by first | simpa using c119 | (simp at c119 ⊢; omega)
    have hc119 := hid c119
    clear c119
    obtain rfl := Option.some.inj H
    clear H
    go_enter Try.func31, Try.ntmps31
    go_wp2_with (first
      | ((with_reducible refine gate_d (N := 7) rfl ?_); obtain ⟨A143, c144, hv145⟩ := (SP0.out.below HL.out).shape; rw [List.length_map] at hv145; refine ag_fix (.int .i64 (a0.length : Int)) (ex_len us43 _ _ _ _ hv145 _ rfl rfl) rfl ?_; clear hv145)
      | ((with_reducible refine gate_d (N := 9) rfl ?_); obtain ⟨A146, c147, hv148⟩ := (SP1.out.below HL.out).shape; rw [List.length_map] at hv148; refine ag_fix (.int .i64 (a1.length : Int)) (ex_len us43 _ _ _ _ hv148 _ rfl rfl) rfl ?_; clear hv148))
    (try simp only [Act.put, List.setIfInBounds_toArray, List.set_cons_zero, List.set_cons_succ])
    go_ret
    exact ⟨by first | rfl | (simp; done) | (simp [*]; done), HL.out⟩
end Go.Proofs.Ytpgdcpkggmkooaa
