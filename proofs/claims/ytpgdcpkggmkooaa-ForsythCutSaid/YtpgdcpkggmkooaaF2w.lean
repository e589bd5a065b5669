/- The walks of package forsyth: Read. -/
import Derived.Test.YtpgdcpkggmkooaaProg
import Derived.Test.YtpgdcpkggmkooaaFw
namespace Go.Proofs.Ytpgdcpkggmkooaa
open Go.RowKit
set_option linter.unusedVariables false
set_option linter.unusedSimpArgs false
theorem aT65_agg (w : World) : (isAgg 65).run Try.prog w = .ok true w := by kernel_rfl
theorem aT65_size (w : World) : (sizeOf 65).run Try.prog w = .ok 66 w := by kernel_rfl
theorem aT65_zero (w : World) : (zeroValue 65).run Try.prog w = .ok (.agg (xv (Value.int .i8) zL [.int .i64 0, .int .i64 0])) w := by kernel_rfl
theorem aT65 : AggT Try.prog 65 66 (xv (Value.int .i8) zL [.int .i64 0, .int .i64 0]) := ⟨aT65_agg, aT65_size, aT65_zero, by first | rfl | decide⟩
/-! i_forsyth_Read: function 37 -/
def i_forsyth_Read.l0 : Nat → ByteArray → List Int → Int → Int → Nat → Option ((List Int) × Int × Int)
  | 0, _, _, _, _, _ => none
  | k + 1, a0, yb86_0_0, yb86_1_0, yb86_2_0, yb87_0_0 => if yb87_0_0 < a0.size then ((i_forsyth_reader_next.f yb86_0_0 yb86_1_0 yb86_2_0 ((Utf8.decode a0 yb87_0_0).1 : Int)).bind fun bt93 => (if bt93.1 = true then (i_forsyth_Read.l0 k a0 bt93.2.1 bt93.2.2.1 bt93.2.2.2 (yb87_0_0 + (Utf8.decode a0 yb87_0_0).2)) else (some (zL, (yb87_0_0 : Int), 2)))) else ((i_forsyth_reader_over.f yb86_0_0 yb86_1_0 yb86_2_0).bind fun t97 => (if t97 = true then (some (yb86_0_0, (a0.size : Int), 0)) else (some (zL, (a0.size : Int), 1))))
def i_forsyth_Read.f (k : Nat) (a0 : ByteArray) : Option ((List Int) × Int × Int) := i_forsyth_Read.l0 k a0 zL 0 0 0
set_option maxHeartbeats 40000000 in
set_option maxRecDepth 100000 in
theorem i_forsyth_Read.calls (k : Nat) (a0 : ByteArray) (r1 : List Int) (r2 : Int) (r3 : Int) (w : World) (h : i_forsyth_Read.f k a0 = some (r1, r2, r3)) :
    Calls Try.prog 37 #[.string a0] w fun e w' => e = .returned (.tuple #[.agg (bv r1), .int .i64 r2, .int .i64 r3]) ∧ r1.length = 64 ∧ Below w.heap.size w w' := by
  have HL := hid (Below.refl w.heap.size w)
  have H : (i_forsyth_Read.l0 k a0 zL 0 0 0) = some (r1, r2, r3) := h
  clear h
  have H' := hid H
  clear H
  go_enter Try.func37, Try.ntmps37
  go_wp2_with (first
    | ((with_reducible refine gate_d (N := 2) rfl ?_); obtain ⟨gb85, hgb85⟩ : ∃ g_, w.heap.size = g_ := ⟨_, rfl⟩; refine ag_alloc boardT gb85 hgb85 rfl rfl ?_; intro w98 hb_ hB_ hs_; have GEb85 : Hid (w.heap.size ≤ gb85) := hid (by have := HL.out.size; omega); replace HL := hid (HL.out.trans (hb_.mono GEb85.out)); have BKb85 := hid hB_; clear hb_ hB_ hs_ hgb85)
    | ((with_reducible refine gate_d (N := 5) rfl ?_); obtain ⟨gb86, hgb86⟩ : ∃ g_, w98.heap.size = g_ := ⟨_, rfl⟩; refine ag_alloc aT65 gb86 hgb86 rfl rfl ?_; intro w99 hb_ hB_ hs_; have GEb86 : Hid (w.heap.size ≤ gb86) := hid (by have := HL.out.size; omega); have NBb85_b86 : Hid (gb85 ≠ gb86) := hid (by have := BKb85.out.lt; omega); have NBb86_b85 : Hid (gb86 ≠ gb85) := hid (by have := NBb85_b86.out; omega); replace BKb85 := hid (BKb85.out.below hb_ (by rw [← hgb86]; exact BKb85.out.lt)); replace HL := hid (HL.out.trans (hb_.mono GEb86.out)); have BKb86 := hid hB_; clear hb_ hB_ hs_ hgb86)
    | ((with_reducible refine gate_d (N := 9) rfl ?_); obtain ⟨gb87, hgb87⟩ : ∃ g_, w99.heap.size = g_ := ⟨_, rfl⟩; refine ag_range a0 gb87 hgb87 und_txt rfl _ rfl rfl ?_; intro w100 hb_ hB_ hs_; have GEb87 : Hid (w.heap.size ≤ gb87) := hid (by have := HL.out.size; omega); have NBb85_b87 : Hid (gb85 ≠ gb87) := hid (by have := BKb85.out.lt; omega); have NBb87_b85 : Hid (gb87 ≠ gb85) := hid (by have := NBb85_b87.out; omega); replace BKb85 := hid (BKb85.out.below hb_ (by rw [← hgb87]; exact BKb85.out.lt)); have NBb86_b87 : Hid (gb86 ≠ gb87) := hid (by have := BKb86.out.lt; omega); have NBb87_b86 : Hid (gb87 ≠ gb86) := hid (by have := NBb86_b87.out; omega); replace BKb86 := hid (BKb86.out.below hb_ (by rw [← hgb87]; exact BKb86.out.lt)); replace HL := hid (HL.out.trans (hb_.mono GEb87.out)); have BKb87 := hid hB_; clear hb_ hB_ hs_ hgb87))
  (try simp only [Act.put, List.setIfInBounds_toArray, List.set_cons_zero, List.set_cons_succ])
  go_loopg [] k (fun kq  w' => ∃ (yb86_0_0 : List Int) (yb86_1_0 : Int) (yb86_2_0 : Int) (yb87_0_0 : Nat), Hid (i_forsyth_Read.l0 kq a0 yb86_0_0 yb86_1_0 yb86_2_0 yb87_0_0 = some (r1, r2, r3)) ∧ Hid (kq ≤ k) ∧ Hid (yb86_0_0.length = 64) ∧ Hid (Blk w' gb85 24 (bv zL)) ∧ Hid (Blk w' gb86 65 (xv (Value.int .i8) yb86_0_0 [.int .i64 yb86_1_0, .int .i64 yb86_2_0])) ∧ Hid (Itr w' gb87 a0 yb87_0_0) ∧ Hid (Below w.heap.size w w'))
  case atStart => exact ⟨zL, (0 : Int), (0 : Int), (0 : Nat), H', (hid (by first | omega | (omega))), (hid (by first | rfl | (simp only [List.length_set, List.length_replicate, zL_len, List.length_cons, List.length_nil]; done) | (simp [zL_len]; done))), (hid (by exact BKb85.out)), (hid (by exact BKb86.out)), (hid (by exact BKb87.out)), HL⟩
  case round =>
    clear H'
    clear HL BKb85 BKb86 BKb87
    obtain ⟨yb86_0_0, yb86_1_0, yb86_2_0, yb87_0_0, HA, HK101, LN_yb86_0_0, BKb85, BKb86, BKb87, HL⟩ := hrel
    cases gk with
    | zero => exact absurd HA.out (by simp [i_forsyth_Read.l0])
    | succ k102 =>
      have H := HA.out
      clear HA
      simp only [i_forsyth_Read.l0] at H
      by_cases c103 : yb87_0_0 < a0.size
      · rw [if_pos c103] at H
        have hc103 := hid c103
        clear c103
        replace H := Option.bind_eq_some_iff.mp H
        obtain ⟨⟨t93, t94, t95, t96⟩, A104_, H⟩ := H
        replace H : (if t93 = true then (i_forsyth_Read.l0 k102 a0 t94 t95 t96 (yb87_0_0 + (Utf8.decode a0 yb87_0_0).2)) else (some (zL, (yb87_0_0 : Int), 2))) = some (r1, r2, r3) := H
        have A104 := hid A104_
        clear A104_
        cases t93 with
        | true =>
          rw [if_pos rfl] at H
          have H' := hid H
          clear H
          have k107 := True.intro
          go_wp2_with (first
            | ((with_reducible refine gate_d (N := 10) rfl ?_); refine ag_next_y a0 gb87 yb87_0_0 BKb87.out hc103.out rfl _ rfl rfl ?_; intro w106 ho_ hB_; replace BKb85 := hid (BKb85.out.off ho_ NBb85_b87.out); replace BKb86 := hid (BKb86.out.off ho_ NBb86_b87.out); replace HL := hid (ho_.below HL.out GEb87.out); replace BKb87 := hid hB_; clear ho_ hB_)
            | (go_at_call 60; clear k107; refine (i_forsyth_reader_next.calls yb86_0_0 yb86_1_0 yb86_2_0 ((Utf8.decode a0 yb87_0_0).1 : Int) (by first | rfl | (simp only [List.length_set, List.length_replicate, zL_len, List.length_cons, List.length_nil, LN_yb86_0_0.out]; done) | (simp [zL_len, LN_yb86_0_0.out]; done)) true t94 t95 t96 gb86 _ BKb86.out A104.out).mono ?_; rintro e_ w108 ⟨rfl, ln_t94, hB_, hx_⟩; have LN_t94 := hid ln_t94; clear ln_t94; replace BKb85 := hid (BKb85.out.bex hx_ BKb85.out.lt NBb85_b86.out); replace BKb87 := hid (BKb87.out.bex hx_ BKb87.out.lt NBb87_b86.out); replace HL := hid (below_bex HL.out hx_ HL.out.size GEb86.out); replace BKb86 := hid hB_; clear hx_ hB_))
          (try simp only [Act.put, List.setIfInBounds_toArray, List.set_cons_zero, List.set_cons_succ])
          go_roundg k102
          case measure => have := HK101.out; omega
          case rel => exact ⟨t94, t95, t96, (yb87_0_0 + (Utf8.decode a0 yb87_0_0).2), H', (hid (by first | omega | (have := HK101.out; omega))), (hid (by first | rfl | (simp only [List.length_set, List.length_replicate, zL_len, List.length_cons, List.length_nil, LN_yb86_0_0.out, LN_t94.out]; done) | (simp [zL_len, LN_yb86_0_0.out, LN_t94.out]; done))), (hid (by exact BKb85.out)), (hid (by exact BKb86.out)), (hid (by exact BKb87.out)), HL⟩
        | false =>
          rw [if_neg (show ¬ (false = true) by decide)] at H
          simp only [Option.some.injEq, Prod.mk.injEq] at H
          obtain ⟨rfl, rfl, rfl⟩ := H
          have k110 := True.intro
          go_wp2_with (first
            | ((with_reducible refine gate_d (N := 10) rfl ?_); refine ag_next_y a0 gb87 yb87_0_0 BKb87.out hc103.out rfl _ rfl rfl ?_; intro w109 ho_ hB_; replace BKb85 := hid (BKb85.out.off ho_ NBb85_b87.out); replace BKb86 := hid (BKb86.out.off ho_ NBb86_b87.out); replace HL := hid (ho_.below HL.out GEb87.out); replace BKb87 := hid hB_; clear ho_ hB_)
            | (go_at_call 60; clear k110; refine (i_forsyth_reader_next.calls yb86_0_0 yb86_1_0 yb86_2_0 ((Utf8.decode a0 yb87_0_0).1 : Int) (by first | rfl | (simp only [List.length_set, List.length_replicate, zL_len, List.length_cons, List.length_nil, LN_yb86_0_0.out]; done) | (simp [zL_len, LN_yb86_0_0.out]; done)) false t94 t95 t96 gb86 _ BKb86.out A104.out).mono ?_; rintro e_ w111 ⟨rfl, ln_t94, hB_, hx_⟩; have LN_t94 := hid ln_t94; clear ln_t94; replace BKb85 := hid (BKb85.out.bex hx_ BKb85.out.lt NBb85_b86.out); replace BKb87 := hid (BKb87.out.bex hx_ BKb87.out.lt NBb87_b86.out); replace HL := hid (below_bex HL.out hx_ HL.out.size GEb86.out); replace BKb86 := hid hB_; clear hx_ hB_)
            | ((with_reducible refine gate_d (N := 17) rfl ?_); refine ag_build (.agg (bv zL)) _ rfl rfl ?_ ?_; (intro ww_; kernel_rfl))
            | ((with_reducible refine gate_s (t := 24) (p := 2) rfl ?_); refine ag_store boardT gb85 0 (bv zL) (bv zL) (bv zL) BKb85.out (by rw [show (bv zL) = av (Value.int .i8) zL from rfl, av_size]; exact (by first | rfl | (simp only [List.length_set, List.length_replicate, zL_len, List.length_cons, List.length_nil, LN_yb86_0_0.out, LN_t94.out]; done) | (simp [zL_len, LN_yb86_0_0.out, LN_t94.out]; done))) (av_le (by first | rfl | (simp only [List.length_set, List.length_replicate, zL_len, List.length_cons, List.length_nil, LN_yb86_0_0.out, LN_t94.out]; done) | (simp [zL_len, LN_yb86_0_0.out, LN_t94.out]; done))) (av_one (fun _ => rfl)) (av_put (by first | rfl | (simp only [List.length_set, List.length_replicate, zL_len, List.length_cons, List.length_nil, LN_yb86_0_0.out, LN_t94.out]; done) | (simp [zL_len, LN_yb86_0_0.out, LN_t94.out]; done)) (by first | rfl | (simp only [List.length_set, List.length_replicate, zL_len, List.length_cons, List.length_nil, LN_yb86_0_0.out, LN_t94.out]; done) | (simp [zL_len, LN_yb86_0_0.out, LN_t94.out]; done))) rfl _ _ rfl rfl rfl ?_; intro w112 ho_ hB_; replace BKb86 := hid (BKb86.out.off ho_ NBb86_b85.out); replace BKb87 := hid (BKb87.out.off ho_ NBb87_b85.out); replace HL := hid (ho_.below HL.out GEb85.out); replace BKb85 := hid hB_; clear ho_ hB_))
          (try simp only [Act.put, List.setIfInBounds_toArray, List.set_cons_zero, List.set_cons_succ])
          refine bodyPost_ret (v := .tuple #[.agg (bv zL), .int .i64 (yb87_0_0 : Int), .int .i64 2]) (res_ctt boardT rfl _ gb85 (bv zL) (.int .i64 (yb87_0_0 : Int)) (.int .i64 2) BKb85.out (by rw [show (bv zL) = av (Value.int .i8) zL from rfl, av_size]; exact (by first | rfl | (simp only [List.length_set, List.length_replicate, zL_len, List.length_cons, List.length_nil, LN_yb86_0_0.out, LN_t94.out]; done) | (simp [zL_len, LN_yb86_0_0.out, LN_t94.out]; done))) rfl rfl rfl) rfl ?_
          exact ⟨by first | rfl | (simp; done) | (simp [*]; done), (by first | rfl | (simp only [List.length_set, List.length_replicate, zL_len, List.length_cons, List.length_nil, LN_yb86_0_0.out, LN_t94.out]; done) | (simp [zL_len, LN_yb86_0_0.out, LN_t94.out]; done)), HL.out⟩
      · rw [if_neg c103] at H
        have hc103 := hid c103
        clear c103
        replace H := Option.bind_eq_some_iff.mp H
        obtain ⟨t97, A113_, H⟩ := H
        replace H : (if t97 = true then (some (yb86_0_0, (a0.size : Int), 0)) else (some (zL, (a0.size : Int), 1))) = some (r1, r2, r3) := H
        have A113 := hid A113_
        clear A113_
        cases t97 with
        | true =>
          rw [if_pos rfl] at H
          simp only [Option.some.injEq, Prod.mk.injEq] at H
          obtain ⟨rfl, rfl, rfl⟩ := H
          have k115 := True.intro
          go_wp2_with (first
            | ((with_reducible refine gate_d (N := 10) rfl ?_); refine ag_next_n a0 gb87 yb87_0_0 BKb87.out hc103.out rfl _ rfl rfl ?_)
            | (go_at_call 61; clear k115; refine (i_forsyth_reader_over.calls yb86_0_0 yb86_1_0 yb86_2_0 (by first | rfl | (simp only [List.length_set, List.length_replicate, zL_len, List.length_cons, List.length_nil, LN_yb86_0_0.out]; done) | (simp [zL_len, LN_yb86_0_0.out]; done)) true gb86 _ BKb86.out A113.out).mono ?_; rintro e_ w' ⟨rfl, rfl⟩)
            | ((with_reducible refine gate_d (N := 24) rfl ?_); refine ag_fix (.pointer (some ⟨gb86, 0, none⟩)) (ex_field 65 0 (.pointer (some ⟨gb86, 0, none⟩)) (.pointer (some ⟨gb86, 0, none⟩)) (fa65_0_0 gb86) _ rfl rfl) rfl ?_)
            | ((with_reducible refine gate_d (N := 25) rfl ?_); refine ag_fix (.agg (bv yb86_0_0)) (ex_load boardT gb86 0 (xv (Value.int .i8) yb86_0_0 [.int .i64 yb86_1_0, .int .i64 yb86_2_0]) (bv yb86_0_0) BKb86.out (xv_lea (by first | rfl | (simp only [List.length_set, List.length_replicate, zL_len, List.length_cons, List.length_nil, LN_yb86_0_0.out]; done) | (simp [zL_len, LN_yb86_0_0.out]; done))) (xv_exa (by first | rfl | (simp only [List.length_set, List.length_replicate, zL_len, List.length_cons, List.length_nil, LN_yb86_0_0.out]; done) | (simp [zL_len, LN_yb86_0_0.out]; done))) _ rfl rfl) rfl ?_)
            | ((with_reducible refine gate_s (t := 24) (p := 2) rfl ?_); refine ag_store boardT gb85 0 (bv zL) (bv yb86_0_0) (bv yb86_0_0) BKb85.out (by rw [show (bv yb86_0_0) = av (Value.int .i8) yb86_0_0 from rfl, av_size]; exact (by first | rfl | (simp only [List.length_set, List.length_replicate, zL_len, List.length_cons, List.length_nil, LN_yb86_0_0.out]; done) | (simp [zL_len, LN_yb86_0_0.out]; done))) (av_le (by first | rfl | (simp only [List.length_set, List.length_replicate, zL_len, List.length_cons, List.length_nil, LN_yb86_0_0.out]; done) | (simp [zL_len, LN_yb86_0_0.out]; done))) (av_one (fun _ => rfl)) (av_put (by first | rfl | (simp only [List.length_set, List.length_replicate, zL_len, List.length_cons, List.length_nil, LN_yb86_0_0.out]; done) | (simp [zL_len, LN_yb86_0_0.out]; done)) (by first | rfl | (simp only [List.length_set, List.length_replicate, zL_len, List.length_cons, List.length_nil, LN_yb86_0_0.out]; done) | (simp [zL_len, LN_yb86_0_0.out]; done))) rfl _ _ rfl rfl rfl ?_; intro w116 ho_ hB_; replace BKb86 := hid (BKb86.out.off ho_ NBb86_b85.out); replace BKb87 := hid (BKb87.out.off ho_ NBb87_b85.out); replace HL := hid (ho_.below HL.out GEb85.out); replace BKb85 := hid hB_; clear ho_ hB_))
          (try simp only [Act.put, List.setIfInBounds_toArray, List.set_cons_zero, List.set_cons_succ])
          refine bodyPost_ret (v := .tuple #[.agg (bv yb86_0_0), .int .i64 (a0.size : Int), .int .i64 0]) (res_ctt boardT rfl _ gb85 (bv yb86_0_0) (.int .i64 (a0.size : Int)) (.int .i64 0) BKb85.out (by rw [show (bv yb86_0_0) = av (Value.int .i8) yb86_0_0 from rfl, av_size]; exact (by first | rfl | (simp only [List.length_set, List.length_replicate, zL_len, List.length_cons, List.length_nil, LN_yb86_0_0.out]; done) | (simp [zL_len, LN_yb86_0_0.out]; done))) rfl rfl rfl) rfl ?_
          exact ⟨by first | rfl | (simp; done) | (simp [*]; done), (by first | rfl | (simp only [List.length_set, List.length_replicate, zL_len, List.length_cons, List.length_nil, LN_yb86_0_0.out]; done) | (simp [zL_len, LN_yb86_0_0.out]; done)), HL.out⟩
        | false =>
          rw [if_neg (show ¬ (false = true) by decide)] at H
          simp only [Option.some.injEq, Prod.mk.injEq] at H
          obtain ⟨rfl, rfl, rfl⟩ := H
          have k117 := True.intro
          go_wp2_with (first
            | ((with_reducible refine gate_d (N := 10) rfl ?_); refine ag_next_n a0 gb87 yb87_0_0 BKb87.out hc103.out rfl _ rfl rfl ?_)
            | (go_at_call 61; clear k117; refine (i_forsyth_reader_over.calls yb86_0_0 yb86_1_0 yb86_2_0 (by first | rfl | (simp only [List.length_set, List.length_replicate, zL_len, List.length_cons, List.length_nil, LN_yb86_0_0.out]; done) | (simp [zL_len, LN_yb86_0_0.out]; done)) false gb86 _ BKb86.out A113.out).mono ?_; rintro e_ w' ⟨rfl, rfl⟩)
            | ((with_reducible refine gate_d (N := 21) rfl ?_); refine ag_build (.agg (bv zL)) _ rfl rfl ?_ ?_; (intro ww_; kernel_rfl))
            | ((with_reducible refine gate_s (t := 24) (p := 2) rfl ?_); refine ag_store boardT gb85 0 (bv zL) (bv zL) (bv zL) BKb85.out (by rw [show (bv zL) = av (Value.int .i8) zL from rfl, av_size]; exact (by first | rfl | (simp only [List.length_set, List.length_replicate, zL_len, List.length_cons, List.length_nil, LN_yb86_0_0.out]; done) | (simp [zL_len, LN_yb86_0_0.out]; done))) (av_le (by first | rfl | (simp only [List.length_set, List.length_replicate, zL_len, List.length_cons, List.length_nil, LN_yb86_0_0.out]; done) | (simp [zL_len, LN_yb86_0_0.out]; done))) (av_one (fun _ => rfl)) (av_put (by first | rfl | (simp only [List.length_set, List.length_replicate, zL_len, List.length_cons, List.length_nil, LN_yb86_0_0.out]; done) | (simp [zL_len, LN_yb86_0_0.out]; done)) (by first | rfl | (simp only [List.length_set, List.length_replicate, zL_len, List.length_cons, List.length_nil, LN_yb86_0_0.out]; done) | (simp [zL_len, LN_yb86_0_0.out]; done))) rfl _ _ rfl rfl rfl ?_; intro w118 ho_ hB_; replace BKb86 := hid (BKb86.out.off ho_ NBb86_b85.out); replace BKb87 := hid (BKb87.out.off ho_ NBb87_b85.out); replace HL := hid (ho_.below HL.out GEb85.out); replace BKb85 := hid hB_; clear ho_ hB_))
          (try simp only [Act.put, List.setIfInBounds_toArray, List.set_cons_zero, List.set_cons_succ])
          refine bodyPost_ret (v := .tuple #[.agg (bv zL), .int .i64 (a0.size : Int), .int .i64 1]) (res_ctt boardT rfl _ gb85 (bv zL) (.int .i64 (a0.size : Int)) (.int .i64 1) BKb85.out (by rw [show (bv zL) = av (Value.int .i8) zL from rfl, av_size]; exact (by first | rfl | (simp only [List.length_set, List.length_replicate, zL_len, List.length_cons, List.length_nil, LN_yb86_0_0.out]; done) | (simp [zL_len, LN_yb86_0_0.out]; done))) rfl rfl rfl) rfl ?_
          exact ⟨by first | rfl | (simp; done) | (simp [*]; done), (by first | rfl | (simp only [List.length_set, List.length_replicate, zL_len, List.length_cons, List.length_nil, LN_yb86_0_0.out]; done) | (simp [zL_len, LN_yb86_0_0.out]; done)), HL.out⟩
end Go.Proofs.Ytpgdcpkggmkooaa
