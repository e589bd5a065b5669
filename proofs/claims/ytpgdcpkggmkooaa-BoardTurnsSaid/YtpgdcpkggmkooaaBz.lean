/- Man, Put, the reference's Turned and Same; BoardPuts. -/
import Derived.Test.YtpgdcpkggmkooaaBy
namespace Go.Proofs.Ytpgdcpkggmkooaa
open Go.RowKit
theorem run_cell_tmp {P : Program} {t t' : TypeId} {n : Nat} {z : Array Value} {w : World} (T : AggT P t n z) {fn : Func} {p q : Tmp} (hr : fn.results = #[.cell p t, .tmp q]) (tmps : Array Value) (g : Nat) (cs : Array Value) (hB : Blk w g t' cs) (hn : cs.size = n)
    (hp : tmps.getD p undef = .pointer (some ⟨g, 0, none⟩)) : (results fn tmps).run P w = .ok (.tuple #[.agg cs, tmps.getD q undef]) w := by
  have hp' : tmps[p]?.getD undef = .pointer (some ⟨g, 0, none⟩) := by simpa using hp
  have hl := run_ld (P := P) T g 0 cs hB (by omega)
  rw [Nat.zero_add, ← hn, Array.extract_size] at hl
  simp [results, hr, hp', asAddr, hl]
theorem set_size {l : List Int} (h : l.length = 64) (k : Nat) (x : Int) : (l.set k x).length = 64 := by rw [List.length_set, h]
set_option maxRecDepth 10000 in
set_option maxHeartbeats 2000000 in
theorem bdMan_t (l : List Int) (s : Int) (h8 : B8 l) (h0 : 0 ≤ s) (h1 : s < 64) (w : World) :
    Calls Try.prog 30 #[.agg (bv l), .int .i64 s] w fun e w' => e = .returned (.int .i64 (l.getD s.toNat 0)) ∧ Below w.heap.size w w' := by
  have HL := hid h8.1
  have HE := hid h8.2
  have H8 := hid h8
  clear h8
  have R := hid (sqRight_t s h0 h1)
  have hat := at_board w.heap.size 0 s h0 h1
  rw [Nat.zero_add] at hat
  have c0 : ∀ w1, Blk w1 w.heap.size 24 (bv l) → w1.cell? ⟨w.heap.size, s.toNat, none⟩ = some (.int .i8 (l.getD s.toNat 0)) := fun w1 h => (h.cell _).trans (bv_get l _ (by rw [HL.out]; omega))
  obtain ⟨x0, x1⟩ := HE.out s.toNat
  generalize l.getD s.toNat 0 = x at *
  generalize s.toNat = k at *
  have C0 := hid c0
  clear c0
  go_enter Try.func30, Try.ntmps30
  go_wp2_with (first
    | (refine ag_box (bv l) w.heap.size rfl rfl _ rfl rfl ?_; intro w1 hb1 hB1 hs1; have c1 := C0.out _ hB1)
    | (go_at_call 52; refine (R.out _).mono ?_; rintro e w' ⟨rfl, rfl⟩))
  go_ret
  exact ⟨rfl, hb1⟩
set_option maxRecDepth 10000 in
set_option maxHeartbeats 2000000 in
theorem bdMan_f (l : List Int) (s : Int) (h8 : B8 l) (h : ¬ (0 ≤ s ∧ s < 64)) (w : World) :
    Calls Try.prog 30 #[.agg (bv l), .int .i64 s] w fun e w' => e = .returned (.int .i64 0) ∧ Below w.heap.size w w' := by
  have HL := hid h8.1
  have HE := hid h8.2
  have H8 := hid h8
  clear h8
  have R := hid (sqRight_f s h)
  go_enter Try.func30, Try.ntmps30
  go_wp2_with (first
    | (refine ag_box (bv l) w.heap.size rfl rfl _ rfl rfl ?_; intro w1 hb1 hB1 hs1)
    | (go_at_call 52; refine (R.out _).mono ?_; rintro e w' ⟨rfl, rfl⟩))
  go_ret
  exact ⟨rfl, hb1⟩
set_option maxRecDepth 10000 in
set_option maxHeartbeats 2000000 in
theorem bdPut_s (l : List Int) (s m : Int) (h8 : B8 l) (h : ¬ (0 ≤ s ∧ s < 64)) (w : World) :
    Calls Try.prog 23 #[.agg (bv l), .int .i64 s, .int .i64 m] w fun e w' => e = .returned (.tuple #[.agg (bv zL), .int .i64 5]) ∧ Below w.heap.size w w' := by
  have HL := hid h8.1
  have HE := hid h8.2
  have H8 := hid h8
  clear h8
  have R := hid (sqRight_f s h)
  clear h
  have k1 := True.intro
  have k2 := True.intro
  go_enter Try.func23, Try.ntmps23
  go_wp2_with (first
    | (clear k1; refine ag_box (bv l) w.heap.size rfl rfl _ rfl rfl ?_; intro w1 hb1 hB1 hs1)
    | (clear k2; refine ag_alloc boardT (w.heap.size + 1) hs1 rfl rfl ?_; intro w2 hb2 hB2 hs2)
    | (go_at_call 52; refine (R.out _).mono ?_; rintro e w' ⟨rfl, rfl⟩)
    | (refine ag_build (.agg (bv zL)) _ rfl rfl ?_ ?_; (intro ww; simp only [List.map_toArray, List.map_nil]; exact bd_empty ww))
    | (refine ag_store boardT (w.heap.size + 1) 0 (bv zL) (bv zL) (bv zL) hB2 (by rw [bv_size]; rfl) (by rw [bv_size]; decide) (bv_one _) (bv_put _ _ rfl rfl) rfl _ _ rfl rfl rfl ?_; intro w5 ho5 hB5))
  refine bodyPost_ret (run_cell_tmp boardT rfl _ _ _ hB5 (by rw [bv_size]; rfl) rfl) rfl ⟨rfl, ho5.below (hb1.trans (hb2.mono (by omega))) (by omega)⟩
set_option maxRecDepth 10000 in
set_option maxHeartbeats 2000000 in
theorem bdPut_m (l : List Int) (s m : Int) (h8 : B8 l) (h0 : 0 ≤ s) (h1 : s < 64) (h : manB m = false) (hm : m ≠ 0) (w : World) :
    Calls Try.prog 23 #[.agg (bv l), .int .i64 s, .int .i64 m] w fun e w' => e = .returned (.tuple #[.agg (bv zL), .int .i64 5]) ∧ Below w.heap.size w w' := by
  have HL := hid h8.1
  have HE := hid h8.2
  have H8 := hid h8
  clear h8
  have R := hid (sqRight_t s h0 h1)
  have M := hid (mnRight m)
  rw [h] at M
  have b := bne_t hm
  clear h hm
  have k1 := True.intro
  have k2 := True.intro
  go_enter Try.func23, Try.ntmps23
  go_wp2_with (first
    | (clear k1; refine ag_box (bv l) w.heap.size rfl rfl _ rfl rfl ?_; intro w1 hb1 hB1 hs1)
    | (clear k2; refine ag_alloc boardT (w.heap.size + 1) hs1 rfl rfl ?_; intro w2 hb2 hB2 hs2)
    | (go_at_call 52; refine (R.out _).mono ?_; rintro e w' ⟨rfl, rfl⟩)
    | (go_at_call 50; refine (M.out _).mono ?_; rintro e w' ⟨rfl, rfl⟩)
    | (refine ag_build (.agg (bv zL)) _ rfl rfl ?_ ?_; (intro ww; simp only [List.map_toArray, List.map_nil]; exact bd_empty ww))
    | (refine ag_store boardT (w.heap.size + 1) 0 (bv zL) (bv zL) (bv zL) hB2 (by rw [bv_size]; rfl) (by rw [bv_size]; decide) (bv_one _) (bv_put _ _ rfl rfl) rfl _ _ rfl rfl rfl ?_; intro w5 ho5 hB5))
  refine bodyPost_ret (run_cell_tmp boardT rfl _ _ _ hB5 (by rw [bv_size]; rfl) rfl) rfl ⟨rfl, ho5.below (hb1.trans (hb2.mono (by omega))) (by omega)⟩
set_option maxRecDepth 10000 in
set_option maxHeartbeats 2000000 in
theorem bdPut_y (l : List Int) (s m : Int) (h8 : B8 l) (h0 : 0 ≤ s) (h1 : s < 64) (h : manB m = true) (hm : m ≠ 0) (w : World) :
    Calls Try.prog 23 #[.agg (bv l), .int .i64 s, .int .i64 m] w fun e w' => e = .returned (.tuple #[.agg (bv (l.set s.toNat m)), .int .i64 0]) ∧ Below w.heap.size w w' := by
  have HL := hid h8.1
  have HE := hid h8.2
  have H8 := hid h8
  clear h8
  have R := hid (sqRight_t s h0 h1)
  have M := hid (mnRight m)
  rw [h] at M
  have b := bne_t hm
  obtain ⟨m0, m1⟩ : -6 ≤ m ∧ m ≤ 6 := by unfold manB at h; rw [decide_eq_true_iff] at h; omega
  clear h
  have hat := at_board w.heap.size 0 s h0 h1
  rw [Nat.zero_add] at hat
  have C0 : Hid (∀ w1, Blk w1 w.heap.size 24 (bv l) → (w1.cell? ⟨w.heap.size, s.toNat, none⟩ = some (.int .i8 (l.getD s.toNat 0)) ∧ Blk (w1.setCell ⟨w.heap.size, s.toNat, none⟩ (.int .i8 m)) w.heap.size 24 (bv (l.set s.toNat m)))) := hid (fun w1 h => ⟨(h.cell _).trans (bv_get l _ (by rw [HL.out]; omega)), by have := h.set s.toNat (.int .i8 m); rw [bv_set] at this; exact this⟩)
  have HS := hid (set_size HL.out s.toNat m)
  generalize l.getD s.toNat 0 = x at *
  generalize l.set s.toNat m = ls at *
  generalize s.toNat = k at *
  have k1 := True.intro
  have k2 := True.intro
  go_enter Try.func23, Try.ntmps23
  go_wp2_with (first
    | (clear k1; refine ag_box (bv l) w.heap.size rfl rfl _ rfl rfl ?_; intro w1 hb1 hB1 hs1)
    | (clear k2; refine ag_alloc boardT (w.heap.size + 1) hs1 rfl rfl ?_; intro w2 hb2 hB2 hs2; have G1 := hid (hB1.below hb2 (by omega)); have c1 := (C0.out _ G1.out).1; have f0 := G1.out.free k; have C1 := hid (C0.out _ G1.out).2)
    | (go_at_call 52; refine (R.out _).mono ?_; rintro e w' ⟨rfl, rfl⟩)
    | (go_at_call 50; refine (M.out _).mono ?_; rintro e w' ⟨rfl, rfl⟩)
    | (refine ag_load boardT w.heap.size 0 (bv ls) (bv ls) C1.out (bw_le HS.out) (bw_ex HS.out) rfl _ rfl rfl ?_)
    | (refine ag_store boardT (w.heap.size + 1) 0 (bv zL) (bv ls) (bv ls) (hB2.far (by simp) _) (by rw [bv_size, HS.out]) (by rw [bv_size]; decide) (bv_one _) (bv_put _ _ rfl HS.out) rfl _ _ rfl rfl rfl ?_; intro w5 ho5 hB5))
  refine bodyPost_ret (run_cell_tmp boardT rfl _ _ _ hB5 (by rw [bv_size]; exact HS.out) rfl) rfl ⟨rfl, ho5.below ((hb1.trans (hb2.mono (by omega))).setCell (by simp) _) (by omega)⟩
set_option maxRecDepth 10000 in
set_option maxHeartbeats 2000000 in
theorem bdPut_z (l : List Int) (s m : Int) (h8 : B8 l) (h0 : 0 ≤ s) (h1 : s < 64) (hm : m = 0) (w : World) :
    Calls Try.prog 23 #[.agg (bv l), .int .i64 s, .int .i64 m] w fun e w' => e = .returned (.tuple #[.agg (bv (l.set s.toNat m)), .int .i64 0]) ∧ Below w.heap.size w w' := by
  have HL := hid h8.1
  have HE := hid h8.2
  have H8 := hid h8
  clear h8
  have R := hid (sqRight_t s h0 h1)
  have b := bne_f hm
  obtain ⟨m0, m1⟩ : -6 ≤ m ∧ m ≤ 6 := by omega
  clear hm
  have hat := at_board w.heap.size 0 s h0 h1
  rw [Nat.zero_add] at hat
  have C0 : Hid (∀ w1, Blk w1 w.heap.size 24 (bv l) → (w1.cell? ⟨w.heap.size, s.toNat, none⟩ = some (.int .i8 (l.getD s.toNat 0)) ∧ Blk (w1.setCell ⟨w.heap.size, s.toNat, none⟩ (.int .i8 m)) w.heap.size 24 (bv (l.set s.toNat m)))) := hid (fun w1 h => ⟨(h.cell _).trans (bv_get l _ (by rw [HL.out]; omega)), by have := h.set s.toNat (.int .i8 m); rw [bv_set] at this; exact this⟩)
  have HS := hid (set_size HL.out s.toNat m)
  generalize l.getD s.toNat 0 = x at *
  generalize l.set s.toNat m = ls at *
  generalize s.toNat = k at *
  have k1 := True.intro
  have k2 := True.intro
  go_enter Try.func23, Try.ntmps23
  go_wp2_with (first
    | (clear k1; refine ag_box (bv l) w.heap.size rfl rfl _ rfl rfl ?_; intro w1 hb1 hB1 hs1)
    | (clear k2; refine ag_alloc boardT (w.heap.size + 1) hs1 rfl rfl ?_; intro w2 hb2 hB2 hs2; have G1 := hid (hB1.below hb2 (by omega)); have c1 := (C0.out _ G1.out).1; have f0 := G1.out.free k; have C1 := hid (C0.out _ G1.out).2)
    | (go_at_call 52; refine (R.out _).mono ?_; rintro e w' ⟨rfl, rfl⟩)
    | (refine ag_load boardT w.heap.size 0 (bv ls) (bv ls) C1.out (bw_le HS.out) (bw_ex HS.out) rfl _ rfl rfl ?_)
    | (refine ag_store boardT (w.heap.size + 1) 0 (bv zL) (bv ls) (bv ls) (hB2.far (by simp) _) (by rw [bv_size, HS.out]) (by rw [bv_size]; decide) (bv_one _) (bv_put _ _ rfl HS.out) rfl _ _ rfl rfl rfl ?_; intro w5 ho5 hB5))
  refine bodyPost_ret (run_cell_tmp boardT rfl _ _ _ hB5 (by rw [bv_size]; exact HS.out) rfl) rfl ⟨rfl, ho5.below ((hb1.trans (hb2.mono (by omega))).setCell (by simp) _) (by omega)⟩
end Go.Proofs.Ytpgdcpkggmkooaa
