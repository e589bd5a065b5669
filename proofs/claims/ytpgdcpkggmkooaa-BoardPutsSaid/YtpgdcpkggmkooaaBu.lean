/- BoardPuts. -/
import Derived.Test.YtpgdcpkggmkooaaBz
namespace Go.Proofs.Ytpgdcpkggmkooaa
open Go.RowKit
set_option maxRecDepth 10000 in
set_option maxHeartbeats 2000000 in
theorem puts_s (l : List Int) (s m : Int) (h8 : B8 l) (h : ¬ (0 ≤ s ∧ s < 64)) (w : World) :
    Calls Try.prog 5 #[.agg (bv l), .int .i64 s, .int .i64 m] w fun e w' => e = .returned (.bool true) ∧ Below w.heap.size w w' := by
  have HL := hid h8.1
  have HE := hid h8.2
  have H8 := hid h8
  clear h8
  have P := hid (bdPut_s l s m H8.out h)
  have R := hid (rRight_f s h)
  clear h
  have k1 := True.intro
  have k2 := True.intro
  go_enter Try.func5, Try.ntmps5
  go_wp2_with (first
    | (refine ag_box (bv l) w.heap.size rfl rfl _ rfl rfl ?_; intro w1 hb1 hB1 hs1)
    | (refine ag_load boardT w.heap.size 0 (bv l) (bv l) hB1 (bw_le HL.out) (bw_ex HL.out) rfl _ rfl rfl ?_))
  refine (bdWakes _).mono ?_
  rintro e w3 ⟨rfl, hb3⟩
  have GL := hid (hb1.trans (hb3.mono (by omega)))
  have G1 := hid (hB1.below hb3 (by omega))
  clear hb1 hB1 hs1 hb3
  go_wp2_with (refine ag_load boardT w.heap.size 0 (bv l) (bv l) G1.out (bw_le HL.out) (bw_ex HL.out) rfl _ rfl rfl ?_)
  refine (P.out _).mono ?_
  rintro e w4 ⟨rfl, hb4⟩
  replace GL := hid (GL.out.trans (hb4.mono GL.out.size))
  replace G1 := hid (G1.out.below hb4 G1.out.lt)
  clear hb4
  have g1 := G1.out.lt
  obtain ⟨g, hg⟩ : ∃ g, w4.heap.size = g := ⟨_, rfl⟩
  rw [hg] at g1
  go_wp2_with (first
    | (clear k1; refine ag_alloc boardT g hg rfl rfl ?_; intro w5 hb5 hB5 hs5)
    | (clear k2; refine ag_store boardT g 0 (bv zL) (bv zL) (bv zL) hB5 (by rw [bv_size]; exact zL_len) (by rw [bv_size]; decide) (bv_one _) (bv_put _ _ rfl zL_len) rfl _ _ rfl rfl rfl ?_; intro w6 ho6 hB6; have hs6 := ho6.size.trans hs5)
    | (go_at_call 24; refine (R.out _).mono ?_; rintro e w' ⟨rfl, rfl⟩)
    | (refine ag_load boardT g 0 (bv zL) (bv zL) hB6 (bw_le zL_len) (bw_ex zL_len) rfl _ rfl rfl ?_)
    | (refine ag_build (.agg (bv zL)) _ rfl rfl ?_ ?_; (intro ww; simp only [List.map_toArray, List.map_nil]; exact bd_empty ww))
    | (refine ag_eql zL zL zL_len rfl true (decide_eq_true rfl) rfl _ _ _ rfl rfl rfl ?_)
    )
  go_ret
  exact ⟨rfl, (hid (ho6.below (GL.out.trans (hb5.mono (by omega))) (by omega))).out⟩
set_option maxRecDepth 10000 in
set_option maxHeartbeats 2000000 in
theorem puts_m (l : List Int) (s m : Int) (h8 : B8 l) (h0 : 0 ≤ s) (h1 : s < 64) (h : manB m = false) (hm : m ≠ 0) (w : World) :
    Calls Try.prog 5 #[.agg (bv l), .int .i64 s, .int .i64 m] w fun e w' => e = .returned (.bool true) ∧ Below w.heap.size w w' := by
  have HL := hid h8.1
  have HE := hid h8.2
  have H8 := hid h8
  clear h8
  have P := hid (bdPut_m l s m H8.out h0 h1 h hm)
  have R := hid (rRight_t s h0 h1)
  have M := hid (rKind m)
  rw [show kindZ m = 0 by cases hk : decide (kindZ m = 0) with
    | true => exact of_decide_eq_true hk
    | false => rw [manB_kind.2 (of_decide_eq_false hk)] at h; cases h] at M
  have b := bne_t hm
  clear h h0 h1 hm
  have k1 := True.intro
  have k2 := True.intro
  go_enter Try.func5, Try.ntmps5
  go_wp2_with (first
    | (refine ag_box (bv l) w.heap.size rfl rfl _ rfl rfl ?_; intro w1 hb1 hB1 hs1)
    | (refine ag_load boardT w.heap.size 0 (bv l) (bv l) hB1 (bw_le HL.out) (bw_ex HL.out) rfl _ rfl rfl ?_))
  refine (bdWakes _).mono ?_
  rintro e w3 ⟨rfl, hb3⟩
  have GL := hid (hb1.trans (hb3.mono (by omega)))
  have G1 := hid (hB1.below hb3 (by omega))
  clear hb1 hB1 hs1 hb3
  go_wp2_with (refine ag_load boardT w.heap.size 0 (bv l) (bv l) G1.out (bw_le HL.out) (bw_ex HL.out) rfl _ rfl rfl ?_)
  refine (P.out _).mono ?_
  rintro e w4 ⟨rfl, hb4⟩
  replace GL := hid (GL.out.trans (hb4.mono GL.out.size))
  replace G1 := hid (G1.out.below hb4 G1.out.lt)
  clear hb4
  have g1 := G1.out.lt
  obtain ⟨g, hg⟩ : ∃ g, w4.heap.size = g := ⟨_, rfl⟩
  rw [hg] at g1
  go_wp2_with (first
    | (clear k1; refine ag_alloc boardT g hg rfl rfl ?_; intro w5 hb5 hB5 hs5)
    | (clear k2; refine ag_store boardT g 0 (bv zL) (bv zL) (bv zL) hB5 (by rw [bv_size]; exact zL_len) (by rw [bv_size]; decide) (bv_one _) (bv_put _ _ rfl zL_len) rfl _ _ rfl rfl rfl ?_; intro w6 ho6 hB6; have hs6 := ho6.size.trans hs5)
    | (go_at_call 24; refine (R.out _).mono ?_; rintro e w' ⟨rfl, rfl⟩)
    | (go_at_call 25; refine (M.out _).mono ?_; rintro e w' ⟨rfl, rfl⟩)
    | (refine ag_load boardT g 0 (bv zL) (bv zL) hB6 (bw_le zL_len) (bw_ex zL_len) rfl _ rfl rfl ?_)
    | (refine ag_build (.agg (bv zL)) _ rfl rfl ?_ ?_; (intro ww; simp only [List.map_toArray, List.map_nil]; exact bd_empty ww))
    | (refine ag_eql zL zL zL_len rfl true (decide_eq_true rfl) rfl _ _ _ rfl rfl rfl ?_)
    )
  go_ret
  exact ⟨rfl, (hid (ho6.below (GL.out.trans (hb5.mono (by omega))) (by omega))).out⟩
set_option maxRecDepth 10000 in
set_option maxHeartbeats 2000000 in
theorem puts_y (l : List Int) (s m : Int) (h8 : B8 l) (h0 : 0 ≤ s) (h1 : s < 64) (h : manB m = true) (hm : m ≠ 0) (w : World) :
    Calls Try.prog 5 #[.agg (bv l), .int .i64 s, .int .i64 m] w fun e w' => e = .returned (.bool true) ∧ Below w.heap.size w w' := by
  have HL := hid h8.1
  have HE := hid h8.2
  have H8 := hid h8
  clear h8
  have P := hid (bdPut_y l s m H8.out h0 h1 h hm)
  have R := hid (rRight_t s h0 h1)
  have M := hid (rKind m)
  have b := bne_t hm
  have b2 := beq_f (manB_kind.1 h)
  obtain ⟨m0, m1⟩ : -6 ≤ m ∧ m ≤ 6 := by unfold manB at h; rw [decide_eq_true_iff] at h; omega
  have HS := hid (set_size HL.out s.toNat m)
  have AT : Hid (∀ g w', (Instr.indexAt 24 (.pointer (some ⟨g, 0, none⟩)) (.int .i64 s)).run Try.prog w' = .ok (.pointer (some ⟨g, s.toNat, none⟩)) w') := hid (fun g w' => by have := at_board g 0 s h0 h1 w'; rw [Nat.zero_add] at this; exact this)
  have C0 : Hid (∀ g w1, Blk w1 g 24 (bv l) → (w1.cell? ⟨g, s.toNat, none⟩ = some (.int .i8 (l.getD s.toNat 0)) ∧ Blk (w1.setCell ⟨g, s.toNat, none⟩ (.int .i8 m)) g 24 (bv (l.set s.toNat m)))) := hid (fun g w1 h => ⟨(h.cell _).trans (bv_get l _ (by rw [HL.out]; omega)), by have := h.set s.toNat (.int .i8 m); rw [bv_set] at this; exact this⟩)
  generalize l.getD s.toNat 0 = x at *
  generalize l.set s.toNat m = ls at *
  generalize s.toNat = k at *
  generalize kindZ m = km at *
  clear h hm
  have k1 := True.intro
  have k2 := True.intro
  have k3 := True.intro
  have k4 := True.intro
  go_enter Try.func5, Try.ntmps5
  go_wp2_with (first
    | (refine ag_box (bv l) w.heap.size rfl rfl _ rfl rfl ?_; intro w1 hb1 hB1 hs1)
    | (refine ag_load boardT w.heap.size 0 (bv l) (bv l) hB1 (bw_le HL.out) (bw_ex HL.out) rfl _ rfl rfl ?_))
  refine (bdWakes _).mono ?_
  rintro e w3 ⟨rfl, hb3⟩
  have GL := hid (hb1.trans (hb3.mono (by omega)))
  have G1 := hid (hB1.below hb3 (by omega))
  clear hb1 hB1 hs1 hb3
  go_wp2_with (refine ag_load boardT w.heap.size 0 (bv l) (bv l) G1.out (bw_le HL.out) (bw_ex HL.out) rfl _ rfl rfl ?_)
  refine (P.out _).mono ?_
  rintro e w4 ⟨rfl, hb4⟩
  replace GL := hid (GL.out.trans (hb4.mono GL.out.size))
  replace G1 := hid (G1.out.below hb4 G1.out.lt)
  clear hb4
  have g1 := G1.out.lt
  obtain ⟨g, hg⟩ : ∃ g, w4.heap.size = g := ⟨_, rfl⟩
  rw [hg] at g1
  go_wp2_with (first
    | (clear k1; refine ag_alloc boardT g hg rfl rfl ?_; intro w5 hb5 hB5 hs5)
    | (clear k2; refine ag_store boardT g 0 (bv zL) (bv ls) (bv ls) hB5 (by rw [bv_size]; exact HS.out) (by rw [bv_size]; decide) (bv_one _) (bv_put _ _ rfl HS.out) rfl _ _ rfl rfl rfl ?_; intro w6 ho6 hB6; have hs6 := ho6.size.trans hs5)
    | (go_at_call 24; refine (R.out _).mono ?_; rintro e w' ⟨rfl, rfl⟩)
    | (go_at_call 25; refine (M.out _).mono ?_; rintro e w' ⟨rfl, rfl⟩)
    | (refine ag_load boardT w.heap.size 0 (bv l) (bv l) ((G1.out.below hb5 (by omega)).off ho6 (by omega)) (bw_le HL.out) (bw_ex HL.out) rfl _ rfl rfl ?_)
    | (clear k3; refine ag_alloc boardT (g + 1) hs6 rfl rfl ?_; intro w7 hb7 hB7 hs7)
    | (clear k4; refine ag_store boardT (g + 1) 0 (bv zL) (bv l) (bv l) hB7 (by rw [bv_size]; exact HL.out) (by rw [bv_size]; decide) (bv_one _) (bv_put _ _ rfl HL.out) rfl _ _ rfl rfl rfl ?_; intro w8 ho8 hB8; have c1 := (C0.out _ _ hB8).1; have f0 := hB8.free k; have hat := AT.out (g + 1); have C1 := hid (C0.out _ _ hB8).2)
    | (refine ag_load boardT g 0 (bv ls) (bv ls) (((hB6.below hb7 (by omega)).off ho8 (by omega)).far (by simp) _) (bw_le HS.out) (bw_ex HS.out) rfl _ rfl rfl ?_)
    | (refine ag_load boardT (g + 1) 0 (bv ls) (bv ls) C1.out (bw_le HS.out) (bw_ex HS.out) rfl _ rfl rfl ?_)
    | (refine ag_eql ls ls HS.out HS.out true (decide_eq_true rfl) rfl _ _ _ rfl rfl rfl ?_)
    )
  go_ret
  exact ⟨rfl, (ho8.below ((hid (ho6.below (GL.out.trans (hb5.mono (by omega))) (by omega))).out.trans (hb7.mono (by omega))) (by omega)).setCell (by simp; omega) _⟩
set_option maxRecDepth 10000 in
set_option maxHeartbeats 2000000 in
theorem puts_z (l : List Int) (s m : Int) (h8 : B8 l) (h0 : 0 ≤ s) (h1 : s < 64) (hm : m = 0) (w : World) :
    Calls Try.prog 5 #[.agg (bv l), .int .i64 s, .int .i64 m] w fun e w' => e = .returned (.bool true) ∧ Below w.heap.size w w' := by
  have HL := hid h8.1
  have HE := hid h8.2
  have H8 := hid h8
  clear h8
  have P := hid (bdPut_z l s m H8.out h0 h1 hm)
  have R := hid (rRight_t s h0 h1)
  have b := bne_f hm
  obtain ⟨m0, m1⟩ : -6 ≤ m ∧ m ≤ 6 := by omega
  have HS := hid (set_size HL.out s.toNat m)
  have AT : Hid (∀ g w', (Instr.indexAt 24 (.pointer (some ⟨g, 0, none⟩)) (.int .i64 s)).run Try.prog w' = .ok (.pointer (some ⟨g, s.toNat, none⟩)) w') := hid (fun g w' => by have := at_board g 0 s h0 h1 w'; rw [Nat.zero_add] at this; exact this)
  have C0 : Hid (∀ g w1, Blk w1 g 24 (bv l) → (w1.cell? ⟨g, s.toNat, none⟩ = some (.int .i8 (l.getD s.toNat 0)) ∧ Blk (w1.setCell ⟨g, s.toNat, none⟩ (.int .i8 m)) g 24 (bv (l.set s.toNat m)))) := hid (fun g w1 h => ⟨(h.cell _).trans (bv_get l _ (by rw [HL.out]; omega)), by have := h.set s.toNat (.int .i8 m); rw [bv_set] at this; exact this⟩)
  generalize l.getD s.toNat 0 = x at *
  generalize l.set s.toNat m = ls at *
  generalize s.toNat = k at *
  clear hm
  have k1 := True.intro
  have k2 := True.intro
  have k3 := True.intro
  have k4 := True.intro
  go_enter Try.func5, Try.ntmps5
  go_wp2_with (first
    | (refine ag_box (bv l) w.heap.size rfl rfl _ rfl rfl ?_; intro w1 hb1 hB1 hs1)
    | (refine ag_load boardT w.heap.size 0 (bv l) (bv l) hB1 (bw_le HL.out) (bw_ex HL.out) rfl _ rfl rfl ?_))
  refine (bdWakes _).mono ?_
  rintro e w3 ⟨rfl, hb3⟩
  have GL := hid (hb1.trans (hb3.mono (by omega)))
  have G1 := hid (hB1.below hb3 (by omega))
  clear hb1 hB1 hs1 hb3
  go_wp2_with (refine ag_load boardT w.heap.size 0 (bv l) (bv l) G1.out (bw_le HL.out) (bw_ex HL.out) rfl _ rfl rfl ?_)
  refine (P.out _).mono ?_
  rintro e w4 ⟨rfl, hb4⟩
  replace GL := hid (GL.out.trans (hb4.mono GL.out.size))
  replace G1 := hid (G1.out.below hb4 G1.out.lt)
  clear hb4
  have g1 := G1.out.lt
  obtain ⟨g, hg⟩ : ∃ g, w4.heap.size = g := ⟨_, rfl⟩
  rw [hg] at g1
  go_wp2_with (first
    | (clear k1; refine ag_alloc boardT g hg rfl rfl ?_; intro w5 hb5 hB5 hs5)
    | (clear k2; refine ag_store boardT g 0 (bv zL) (bv ls) (bv ls) hB5 (by rw [bv_size]; exact HS.out) (by rw [bv_size]; decide) (bv_one _) (bv_put _ _ rfl HS.out) rfl _ _ rfl rfl rfl ?_; intro w6 ho6 hB6; have hs6 := ho6.size.trans hs5)
    | (go_at_call 24; refine (R.out _).mono ?_; rintro e w' ⟨rfl, rfl⟩)
    | (refine ag_load boardT w.heap.size 0 (bv l) (bv l) ((G1.out.below hb5 (by omega)).off ho6 (by omega)) (bw_le HL.out) (bw_ex HL.out) rfl _ rfl rfl ?_)
    | (clear k3; refine ag_alloc boardT (g + 1) hs6 rfl rfl ?_; intro w7 hb7 hB7 hs7)
    | (clear k4; refine ag_store boardT (g + 1) 0 (bv zL) (bv l) (bv l) hB7 (by rw [bv_size]; exact HL.out) (by rw [bv_size]; decide) (bv_one _) (bv_put _ _ rfl HL.out) rfl _ _ rfl rfl rfl ?_; intro w8 ho8 hB8; have c1 := (C0.out _ _ hB8).1; have f0 := hB8.free k; have hat := AT.out (g + 1); have C1 := hid (C0.out _ _ hB8).2)
    | (refine ag_load boardT g 0 (bv ls) (bv ls) (((hB6.below hb7 (by omega)).off ho8 (by omega)).far (by simp) _) (bw_le HS.out) (bw_ex HS.out) rfl _ rfl rfl ?_)
    | (refine ag_load boardT (g + 1) 0 (bv ls) (bv ls) C1.out (bw_le HS.out) (bw_ex HS.out) rfl _ rfl rfl ?_)
    | (refine ag_eql ls ls HS.out HS.out true (decide_eq_true rfl) rfl _ _ _ rfl rfl rfl ?_)
    )
  go_ret
  exact ⟨rfl, (ho8.below ((hid (ho6.below (GL.out.trans (hb5.mono (by omega))) (by omega))).out.trans (hb7.mono (by omega))) (by omega)).setCell (by simp; omega) _⟩
theorem walk_BoardPuts (l : List Int) (s m : Int) (h8 : B8 l) (w : World) :
    Calls Try.prog 5 #[.agg (bv l), .int .i64 s, .int .i64 m] w fun e w' => e = .returned (.bool true) ∧ Below w.heap.size w w' := by
  by_cases h : 0 ≤ s ∧ s < 64
  · by_cases hm : m = 0
    · exact puts_z l s m h8 h.1 h.2 hm w
    · cases hk : manB m with
      | true => exact puts_y l s m h8 h.1 h.2 hk hm w
      | false => exact puts_m l s m h8 h.1 h.2 hk hm w
  · exact puts_s l s m h8 h w
end Go.Proofs.Ytpgdcpkggmkooaa
