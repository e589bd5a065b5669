/- The walk of boards that are written; the laws ForsythWrites, ForsythShortest. -/
import Derived.Test.YtpgdcpkggmkooaaProg
import Derived.Test.YtpgdcpkggmkooaaF3w
import Derived.Test.YtpgdcpkggmkooaaF4w
import Derived.Test.YtpgdcpkggmkooaaF7w
import Derived.Test.YtpgdcpkggmkooaaF8w
import Derived.Test.YtpgdcpkggmkooaaJn
namespace Go.Proofs.Ytpgdcpkggmkooaa
open Go.RowKit
set_option linter.unusedVariables false
set_option linter.unusedSimpArgs false
theorem sT9 : ScT Try.prog 9 := ⟨fun w => by kernel_rfl, fun w => by kernel_rfl⟩
theorem eT70_info : (Try.prog.info? 9).map (fun i => (i.zero, i.size, i.bytes)) = some (some (.string ⟨#[]⟩), 1, 16) := by kernel_rfl
theorem eT70 : ElemT Try.prog 70 9 16 := ⟨by kernel_rfl, by
  obtain ⟨i, h1, h2, h3, h4⟩ := info_parts eT70_info
  exact ⟨i, _, h1, h2, h3, h4, rfl⟩⟩
/-! i_forsyth_Write: function 39 -/
def i_forsyth_Write.l0 : Nat → List Int → List ByteArray → Int → Option (ByteArray × Int)
  | 0, _, _, _ => none
  | k + 1, a0, x4_0, x5_0 => if x5_0 ≥ 0 then ((i_forsyth_row.f k a0 x5_0).bind fun t1471 => (if x4_0.length < 8796093022208 then (i_forsyth_Write.l0 k a0 (x4_0 ++ [t1471]) (wrap64 (x5_0 - 1))) else (none))) else ((i_strings_Join.f x4_0 (⟨#[47]⟩ : ByteArray)).bind fun t1474 => (some (t1474, 0)))
def i_forsyth_Write.f (k : Nat) (a0 : List Int) : Option (ByteArray × Int) := (i_board_Right.f k a0).bind fun t1466 => (if t1466 = true then (i_forsyth_Write.l0 k a0 ([] : List ByteArray) 7) else (some ((⟨#[]⟩ : ByteArray), 5)))
set_option maxHeartbeats 40000000 in
set_option maxRecDepth 100000 in
theorem i_forsyth_Write.calls (k : Nat) (a0 : List Int) (hla0 : a0.length = 64) (r1 : ByteArray) (r2 : Int) (w : World) (h : i_forsyth_Write.f k a0 = some (r1, r2)) :
    Calls Try.prog 39 #[.agg (bv a0)] w fun e w' => e = .returned (.tuple #[.string r1, .int .i64 r2]) ∧ Below w.heap.size w w' := by
  have LN_a0 := hid hla0
  clear hla0
  have HL := hid (Below.refl w.heap.size w)
  have H : ((i_board_Right.f k a0).bind fun t1466 => (if t1466 = true then (i_forsyth_Write.l0 k a0 ([] : List ByteArray) 7) else (some ((⟨#[]⟩ : ByteArray), 5)))) = some (r1, r2) := h
  clear h
  replace H := Option.bind_eq_some_iff.mp H
  obtain ⟨t1466, A1475_, H⟩ := H
  replace H : (if t1466 = true then (i_forsyth_Write.l0 k a0 ([] : List ByteArray) 7) else (some ((⟨#[]⟩ : ByteArray), 5))) = some (r1, r2) := H
  have A1475 := hid A1475_
  clear A1475_
  cases t1466 with
  | true =>
    rw [if_pos rfl] at H
    have H' := hid H
    clear H
    go_enter Try.func39, Try.ntmps39
    have k1478 := True.intro
    go_wp2_with (first
      | ((with_reducible refine gate_d (N := 1) rfl ?_); obtain ⟨gb1465, hgb1465⟩ : ∃ g_, w.heap.size = g_ := ⟨_, rfl⟩; refine ag_box (bv a0) gb1465 hgb1465 rfl _ rfl rfl ?_; intro w1477 hb_ hB_ hs_; have GEb1465 : Hid (w.heap.size ≤ gb1465) := hid (by have := HL.out.size; omega); replace HL := hid (HL.out.trans (hb_.mono GEb1465.out)); have BKb1465 := hid hB_; clear hb_ hB_ hs_ hgb1465)
      | ((with_reducible refine gate_d (N := 6) rfl ?_); refine ag_fix (.agg (bv a0)) (ex_load boardT gb1465 0 (bv a0) (bv a0) BKb1465.out (av_le (by first | rfl | (simp only [List.length_set, List.length_replicate, zL_len, List.length_cons, List.length_nil, LN_a0.out]; done) | (simp [zL_len, LN_a0.out]; done))) (av_ex (by first | rfl | (simp only [List.length_set, List.length_replicate, zL_len, List.length_cons, List.length_nil, LN_a0.out]; done) | (simp [zL_len, LN_a0.out]; done))) _ rfl rfl) rfl ?_)
      | (go_at_call 19; clear k1478; refine (i_board_Right.calls k a0 (by first | rfl | (simp only [List.length_set, List.length_replicate, zL_len, List.length_cons, List.length_nil, LN_a0.out]; done) | (simp [zL_len, LN_a0.out]; done)) true _ A1475.out).mono ?_; rintro e_ w1479 ⟨rfl, hb_⟩; replace BKb1465 := hid (BKb1465.out.below hb_ BKb1465.out.lt); replace HL := hid (HL.out.trans (hb_.mono HL.out.size)); clear hb_))
    (try simp only [Act.put, List.setIfInBounds_toArray, List.set_cons_zero, List.set_cons_succ])
    go_loopg [4, 5] k (fun kq v4 v5 w' => ∃ (x4_0 : List ByteArray) (ux4_0 : Value) (x5_0 : Int), ux4_0 = v4 ∧ v5 = .int .i64 x5_0 ∧ Hid (i_forsyth_Write.l0 kq a0 x4_0 x5_0 = some (r1, r2)) ∧ Hid (kq ≤ k) ∧ Hid (Blk w' gb1465 24 (bv a0)) ∧ Hid (Own w' w.heap.size 9 (ux4_0) (x4_0.map Value.string)) ∧ Hid (Below w.heap.size w w'))
    case atStart => exact ⟨([] : List ByteArray), (.slice none 0 0), (7 : Int), (by first | rfl | (simp; done) | (simp [*]; done)), (by first | rfl | (simp; done) | (simp [*]; done)), H', (hid (by first | omega | (omega))), (hid (by exact BKb1465.out)), (hid (Own.nil _ _ _)), HL⟩
    case round =>
      clear H'
      clear HL BKb1465
      obtain ⟨x4_0, ux4_0, x5_0, rfl, rfl, HA, HK1480, BKb1465, SWx4_0, HL⟩ := hrel
      cases gk with
      | zero => exact absurd HA.out (by simp [i_forsyth_Write.l0])
      | succ k1481 =>
        have H := HA.out
        clear HA
        simp only [i_forsyth_Write.l0] at H
        by_cases c1482 : x5_0 ≥ 0
        · rw [if_pos c1482] at H
          have c1482b0 : decide (0 ≤ x5_0) = true := decide_eq_true c1482
          have hc1482 := hid c1482
          clear c1482
          replace H := Option.bind_eq_some_iff.mp H
          obtain ⟨t1471, A1483_, H⟩ := H
          replace H : (if x4_0.length < 8796093022208 then (i_forsyth_Write.l0 k1481 a0 (x4_0 ++ [t1471]) (wrap64 (x5_0 - 1))) else (none)) = some (r1, r2) := H
          have A1483 := hid A1483_
          clear A1483_
          by_cases c1484 : x4_0.length < 8796093022208
          · rw [if_pos c1484] at H
            have c1484b0 : decide (x4_0.length < 8796093022208) = true := decide_eq_true c1484
            have hc1484 := hid c1484
            clear c1484
            have H' := hid H
            clear H
            have k1485 := True.intro
            have k1489 := True.intro
            go_wp2_with (first
              | ((with_reducible refine gate_d (N := 14) rfl ?_); refine ag_fix (.agg (bv a0)) (ex_load boardT gb1465 0 (bv a0) (bv a0) BKb1465.out (av_le (by first | rfl | (simp only [List.length_set, List.length_replicate, zL_len, List.length_cons, List.length_nil, LN_a0.out]; done) | (simp [zL_len, LN_a0.out]; done))) (av_ex (by first | rfl | (simp only [List.length_set, List.length_replicate, zL_len, List.length_cons, List.length_nil, LN_a0.out]; done) | (simp [zL_len, LN_a0.out]; done))) _ rfl rfl) rfl ?_)
              | (go_at_call 63; clear k1485; refine (i_forsyth_row.calls k1481 a0 x5_0 (by first | rfl | (simp only [List.length_set, List.length_replicate, zL_len, List.length_cons, List.length_nil, LN_a0.out]; done) | (simp [zL_len, LN_a0.out]; done)) t1471 _ A1483.out).mono ?_; rintro e_ w1486 ⟨rfl, hb_⟩; replace BKb1465 := hid (BKb1465.out.below hb_ BKb1465.out.lt); replace SWx4_0 := hid (SWx4_0.out.below hb_); replace HL := hid (HL.out.trans (hb_.mono HL.out.size)); clear hb_)
              | ((with_reducible refine gate_d (N := 17) rfl ?_); obtain ⟨gb1472, hgb1472⟩ : ∃ g_, w1486.heap.size = g_ := ⟨_, rfl⟩; refine ag_lit sT9 (.string t1471) gb1472 hgb1472 rfl _ rfl rfl (fun w_ => by kernel_rfl) ?_; intro w1487 hb_ hB_ hs_; have GEb1472 : Hid (w.heap.size ≤ gb1472) := hid (by have := HL.out.size; omega); have NBb1465_b1472 : Hid (gb1465 ≠ gb1472) := hid (by have := BKb1465.out.lt; omega); have NBb1472_b1465 : Hid (gb1472 ≠ gb1465) := hid (by have := NBb1465_b1472.out; omega); replace BKb1465 := hid (BKb1465.out.below hb_ (by rw [← hgb1472]; exact BKb1465.out.lt)); replace SWx4_0 := hid (SWx4_0.out.below (by rw [hgb1472]; exact hb_)); replace HL := hid (HL.out.trans (hb_.mono GEb1472.out)); have BKb1472 := hid hB_; clear hb_ hB_ hs_ hgb1472)
              | (at_builtin; clear k1489; refine app_one eT70 w.heap.size (ux4_0) (x4_0.map Value.string) (.string t1471) gb1472 1 SWx4_0.out BKb1472.out rfl (by have h_ := hc1484.out; rw [List.length_map]; omega) (by have h_ := hc1484.out; rw [List.length_map]; unfold maxLen; omega) HL.out.size rfl _ _ rfl rfl rfl ?_; intro uo1473 w1488 ho_ hb_ hk_ hi_; clear SWx4_0; have SWo1473 : Hid (Own w1488 w.heap.size 9 (uo1473) ((x4_0 ++ [t1471]).map Value.string)) := hid (by rw [List.map_append]; exact ho_); replace BKb1465 := hid (hk_ _ _ _ (by decide) BKb1465.out); replace HL := hid (HL.out.trans hb_); clear ho_ hb_ hk_ hi_ BKb1472))
            (try simp only [Act.put, List.setIfInBounds_toArray, List.set_cons_zero, List.set_cons_succ])
            go_roundg k1481
            case measure => have := HK1480.out; omega
            case rel => exact ⟨x4_0 ++ [t1471], (uo1473), wrap64 (x5_0 - 1), (by first | rfl | (simp; done) | (simp [*]; done)), (by first | rfl | (simp; done) | (simp [*]; done)), H', (hid (by first | omega | (have := HK1480.out; omega))), (hid (by exact BKb1465.out)), SWo1473, HL⟩
          · rw [if_neg c1484] at H
            exact absurd H (by simp)
        · rw [if_neg c1482] at H
          have c1482b0 : decide (0 ≤ x5_0) = false := decide_eq_false c1482
          have hc1482 := hid c1482
          clear c1482
          replace H := Option.bind_eq_some_iff.mp H
          obtain ⟨t1474, A1490_, H⟩ := H
          replace H : (some (t1474, 0)) = some (r1, r2) := H
          have A1490 := hid A1490_
          clear A1490_
          simp only [Option.some.injEq, Prod.mk.injEq] at H
          obtain ⟨rfl, rfl⟩ := H
          have k1491 := True.intro
          go_wp2_with (first
            | (go_at_call 64; clear k1491; refine (i_strings_Join.calls (ux4_0) x4_0 (⟨#[47]⟩ : ByteArray) t1474 _ SWx4_0.out A1490.out).mono ?_; rintro e_ w1492 ⟨rfl, hb_⟩; replace BKb1465 := hid (BKb1465.out.below hb_ BKb1465.out.lt); replace SWx4_0 := hid (SWx4_0.out.below hb_); replace HL := hid (HL.out.trans (hb_.mono HL.out.size)); clear hb_))
          (try simp only [Act.put, List.setIfInBounds_toArray, List.set_cons_zero, List.set_cons_succ])
          go_ret2
          exact ⟨by first | rfl | (simp; done) | (simp [*]; done), HL.out⟩
  | false =>
    rw [if_neg (show ¬ (false = true) by decide)] at H
    simp only [Option.some.injEq, Prod.mk.injEq] at H
    obtain ⟨rfl, rfl⟩ := H
    go_enter Try.func39, Try.ntmps39
    have k1494 := True.intro
    go_wp2_with (first
      | ((with_reducible refine gate_d (N := 1) rfl ?_); obtain ⟨gb1465, hgb1465⟩ : ∃ g_, w.heap.size = g_ := ⟨_, rfl⟩; refine ag_box (bv a0) gb1465 hgb1465 rfl _ rfl rfl ?_; intro w1493 hb_ hB_ hs_; have GEb1465 : Hid (w.heap.size ≤ gb1465) := hid (by have := HL.out.size; omega); replace HL := hid (HL.out.trans (hb_.mono GEb1465.out)); have BKb1465 := hid hB_; clear hb_ hB_ hs_ hgb1465)
      | ((with_reducible refine gate_d (N := 6) rfl ?_); refine ag_fix (.agg (bv a0)) (ex_load boardT gb1465 0 (bv a0) (bv a0) BKb1465.out (av_le (by first | rfl | (simp only [List.length_set, List.length_replicate, zL_len, List.length_cons, List.length_nil, LN_a0.out]; done) | (simp [zL_len, LN_a0.out]; done))) (av_ex (by first | rfl | (simp only [List.length_set, List.length_replicate, zL_len, List.length_cons, List.length_nil, LN_a0.out]; done) | (simp [zL_len, LN_a0.out]; done))) _ rfl rfl) rfl ?_)
      | (go_at_call 19; clear k1494; refine (i_board_Right.calls k a0 (by first | rfl | (simp only [List.length_set, List.length_replicate, zL_len, List.length_cons, List.length_nil, LN_a0.out]; done) | (simp [zL_len, LN_a0.out]; done)) false _ A1475.out).mono ?_; rintro e_ w1495 ⟨rfl, hb_⟩; replace BKb1465 := hid (BKb1465.out.below hb_ BKb1465.out.lt); replace HL := hid (HL.out.trans (hb_.mono HL.out.size)); clear hb_))
    (try simp only [Act.put, List.setIfInBounds_toArray, List.set_cons_zero, List.set_cons_succ])
    go_ret2
    exact ⟨by first | rfl | (simp; done) | (simp [*]; done), HL.out⟩
/-! i_alfillaw04_ForsythWrites: function 9 -/
def i_alfillaw04_ForsythWrites.f (k : Nat) (a0 : List Int) : Option (Bool) := (i_alfillaw04_wakes.f k).bind fun t1497 => (if t1497 = true then ((i_forsyth_Write.f k a0).bind fun bt1498 => ((i_alfilref04_Write.f k a0).bind fun bt1500 => (if bt1498.1.toList = bt1500.1.toList then (if bt1498.2 = bt1500.2 then ((i_forsyth_Read.f k bt1498.1).bind fun bt1502 => (if bt1498.2 = 0 then (if bt1502.1 = a0 then (if bt1502.2.1 = (bt1498.1.size : Int) then (some (bt1502.2.2 == 0)) else (some false)) else (some false)) else (some true))) else (some false)) else (some false)))) else (some false))
set_option maxHeartbeats 40000000 in
set_option maxRecDepth 100000 in
theorem i_alfillaw04_ForsythWrites.calls (k : Nat) (a0 : List Int) (hla0 : a0.length = 64) (r1 : Bool) (w : World) (h : i_alfillaw04_ForsythWrites.f k a0 = some r1) :
    Calls Try.prog 9 #[.agg (bv a0)] w fun e w' => e = .returned (.bool r1) ∧ Below w.heap.size w w' := by
  have LN_a0 := hid hla0
  clear hla0
  have HL := hid (Below.refl w.heap.size w)
  have H : ((i_alfillaw04_wakes.f k).bind fun t1497 => (if t1497 = true then ((i_forsyth_Write.f k a0).bind fun bt1498 => ((i_alfilref04_Write.f k a0).bind fun bt1500 => (if bt1498.1.toList = bt1500.1.toList then (if bt1498.2 = bt1500.2 then ((i_forsyth_Read.f k bt1498.1).bind fun bt1502 => (if bt1498.2 = 0 then (if bt1502.1 = a0 then (if bt1502.2.1 = (bt1498.1.size : Int) then (some (bt1502.2.2 == 0)) else (some false)) else (some false)) else (some true))) else (some false)) else (some false)))) else (some false))) = some r1 := h
  clear h
  replace H := Option.bind_eq_some_iff.mp H
  obtain ⟨t1497, A1506_, H⟩ := H
  replace H : (if t1497 = true then ((i_forsyth_Write.f k a0).bind fun bt1498 => ((i_alfilref04_Write.f k a0).bind fun bt1500 => (if bt1498.1.toList = bt1500.1.toList then (if bt1498.2 = bt1500.2 then ((i_forsyth_Read.f k bt1498.1).bind fun bt1502 => (if bt1498.2 = 0 then (if bt1502.1 = a0 then (if bt1502.2.1 = (bt1498.1.size : Int) then (some (bt1502.2.2 == 0)) else (some false)) else (some false)) else (some true))) else (some false)) else (some false)))) else (some false)) = some r1 := H
  have A1506 := hid A1506_
  clear A1506_
  cases t1497 with
  | true =>
    rw [if_pos rfl] at H
    replace H := Option.bind_eq_some_iff.mp H
    obtain ⟨⟨t1498, t1499⟩, A1508_, H⟩ := H
    replace H : ((i_alfilref04_Write.f k a0).bind fun bt1500 => (if t1498.toList = bt1500.1.toList then (if t1499 = bt1500.2 then ((i_forsyth_Read.f k t1498).bind fun bt1502 => (if t1499 = 0 then (if bt1502.1 = a0 then (if bt1502.2.1 = (t1498.size : Int) then (some (bt1502.2.2 == 0)) else (some false)) else (some false)) else (some true))) else (some false)) else (some false))) = some r1 := H
    have A1508 := hid A1508_
    clear A1508_
    replace H := Option.bind_eq_some_iff.mp H
    obtain ⟨⟨t1500, t1501⟩, A1509_, H⟩ := H
    replace H : (if t1498.toList = t1500.toList then (if t1499 = t1501 then ((i_forsyth_Read.f k t1498).bind fun bt1502 => (if t1499 = 0 then (if bt1502.1 = a0 then (if bt1502.2.1 = (t1498.size : Int) then (some (bt1502.2.2 == 0)) else (some false)) else (some false)) else (some true))) else (some false)) else (some false)) = some r1 := H
    have A1509 := hid A1509_
    clear A1509_
    by_cases c1510 : t1498.toList = t1500.toList
    · rw [if_pos c1510] at H
      have c1510b0 : (t1498.toList == t1500.toList) = true := beq_iff_eq.mpr c1510
      have c1510b1 : (t1498.toList != t1500.toList) = false := bne_eq_false_iff_eq.mpr c1510
      have hc1510 := hid c1510
      clear c1510
      by_cases c1511 : t1499 = t1501
      · rw [if_pos c1511] at H
        have c1511b0 : (t1499 == t1501) = true := beq_iff_eq.mpr c1511
        have c1511b1 : (t1499 != t1501) = false := bne_eq_false_iff_eq.mpr c1511
        have hc1511 := hid c1511
        clear c1511
        replace H := Option.bind_eq_some_iff.mp H
        obtain ⟨⟨t1502, t1503, t1504⟩, A1512_, H⟩ := H
        replace H : (if t1499 = 0 then (if t1502 = a0 then (if t1503 = (t1498.size : Int) then (some (t1504 == 0)) else (some false)) else (some false)) else (some true)) = some r1 := H
        have A1512 := hid A1512_
        clear A1512_
        by_cases c1513 : t1499 = 0
        · rw [if_pos c1513] at H
          have c1513b0 : (t1499 == 0) = true := beq_iff_eq.mpr c1513
          have c1513b1 : (t1499 != 0) = false := bne_eq_false_iff_eq.mpr c1513
          have hc1513 := hid c1513
          clear c1513
          by_cases c1514 : t1502 = a0
          · rw [if_pos c1514] at H
            have c1514b0 : (t1502 == a0) = true := beq_iff_eq.mpr c1514
            have c1514b1 : (t1502 != a0) = false := bne_eq_false_iff_eq.mpr c1514
            have hc1514 := hid c1514
            clear c1514
            by_cases c1515 : t1503 = (t1498.size : Int)
            · rw [if_pos c1515] at H
              have c1515b0 : (t1503 == (t1498.size : Int)) = true := beq_iff_eq.mpr c1515
              have c1515b1 : (t1503 != (t1498.size : Int)) = false := bne_eq_false_iff_eq.mpr c1515
              have hc1515 := hid c1515
              clear c1515
              obtain rfl := Option.some.inj H
              clear H
              go_enter Try.func9, Try.ntmps9
              have k1517 := True.intro
              have k1519 := True.intro
              have k1521 := True.intro
              have k1523 := True.intro
              go_wp2_with (first
                | ((with_reducible refine gate_d (N := 1) rfl ?_); obtain ⟨gb1496, hgb1496⟩ : ∃ g_, w.heap.size = g_ := ⟨_, rfl⟩; refine ag_box (bv a0) gb1496 hgb1496 rfl _ rfl rfl ?_; intro w1516 hb_ hB_ hs_; have GEb1496 : Hid (w.heap.size ≤ gb1496) := hid (by have := HL.out.size; omega); replace HL := hid (HL.out.trans (hb_.mono GEb1496.out)); have BKb1496 := hid hB_; clear hb_ hB_ hs_ hgb1496)
                | (go_at_call 36; clear k1517; refine (i_alfillaw04_wakes.calls k true _ A1506.out).mono ?_; rintro e_ w1518 ⟨rfl, hb_⟩; replace BKb1496 := hid (BKb1496.out.below hb_ BKb1496.out.lt); replace HL := hid (HL.out.trans (hb_.mono HL.out.size)); clear hb_)
                | ((with_reducible refine gate_d (N := 13) rfl ?_); refine ag_fix (.agg (bv a0)) (ex_load boardT gb1496 0 (bv a0) (bv a0) BKb1496.out (av_le (by first | rfl | (simp only [List.length_set, List.length_replicate, zL_len, List.length_cons, List.length_nil, LN_a0.out]; done) | (simp [zL_len, LN_a0.out]; done))) (av_ex (by first | rfl | (simp only [List.length_set, List.length_replicate, zL_len, List.length_cons, List.length_nil, LN_a0.out]; done) | (simp [zL_len, LN_a0.out]; done))) _ rfl rfl) rfl ?_)
                | (go_at_call 39; clear k1519; refine (i_forsyth_Write.calls k a0 (by first | rfl | (simp only [List.length_set, List.length_replicate, zL_len, List.length_cons, List.length_nil, LN_a0.out]; done) | (simp [zL_len, LN_a0.out]; done)) t1498 t1499 _ A1508.out).mono ?_; rintro e_ w1520 ⟨rfl, hb_⟩; replace BKb1496 := hid (BKb1496.out.below hb_ BKb1496.out.lt); replace HL := hid (HL.out.trans (hb_.mono HL.out.size)); clear hb_)
                | ((with_reducible refine gate_d (N := 18) rfl ?_); refine ag_fix (.agg (bv a0)) (ex_load boardT gb1496 0 (bv a0) (bv a0) BKb1496.out (av_le (by first | rfl | (simp only [List.length_set, List.length_replicate, zL_len, List.length_cons, List.length_nil, LN_a0.out]; done) | (simp [zL_len, LN_a0.out]; done))) (av_ex (by first | rfl | (simp only [List.length_set, List.length_replicate, zL_len, List.length_cons, List.length_nil, LN_a0.out]; done) | (simp [zL_len, LN_a0.out]; done))) _ rfl rfl) rfl ?_)
                | (go_at_call 40; clear k1521; refine (i_alfilref04_Write.calls k a0 (by first | rfl | (simp only [List.length_set, List.length_replicate, zL_len, List.length_cons, List.length_nil, LN_a0.out]; done) | (simp [zL_len, LN_a0.out]; done)) t1500 t1501 _ A1509.out).mono ?_; rintro e_ w1522 ⟨rfl, hb_⟩; replace BKb1496 := hid (BKb1496.out.below hb_ BKb1496.out.lt); replace HL := hid (HL.out.trans (hb_.mono HL.out.size)); clear hb_)
                | (go_at_call 37; clear k1523; refine (i_forsyth_Read.calls k t1498 t1502 t1503 t1504 _ A1512.out).mono ?_; rintro e_ w1524 ⟨rfl, ln_t1502, hb_⟩; have LN_t1502 := hid ln_t1502; clear ln_t1502; replace BKb1496 := hid (BKb1496.out.below hb_ BKb1496.out.lt); replace HL := hid (HL.out.trans (hb_.mono HL.out.size)); clear hb_)
                | ((with_reducible refine gate_d (N := 7) rfl ?_); obtain ⟨gb1505, hgb1505⟩ : ∃ g_, w1524.heap.size = g_ := ⟨_, rfl⟩; refine ag_alloc boardT gb1505 hgb1505 rfl rfl ?_; intro w1525 hb_ hB_ hs_; have GEb1505 : Hid (w.heap.size ≤ gb1505) := hid (by have := HL.out.size; omega); have NBb1496_b1505 : Hid (gb1496 ≠ gb1505) := hid (by have := BKb1496.out.lt; omega); have NBb1505_b1496 : Hid (gb1505 ≠ gb1496) := hid (by have := NBb1496_b1505.out; omega); replace BKb1496 := hid (BKb1496.out.below hb_ (by rw [← hgb1505]; exact BKb1496.out.lt)); replace HL := hid (HL.out.trans (hb_.mono GEb1505.out)); have BKb1505 := hid hB_; clear hb_ hB_ hs_ hgb1505)
                | ((with_reducible refine gate_s (t := 24) (p := 7) rfl ?_); refine ag_store boardT gb1505 0 (bv zL) (bv t1502) (bv t1502) BKb1505.out (by rw [show (bv t1502) = av (Value.int .i8) t1502 from rfl, av_size]; exact (by first | rfl | (simp only [List.length_set, List.length_replicate, zL_len, List.length_cons, List.length_nil, LN_a0.out, LN_t1502.out]; done) | (simp [zL_len, LN_a0.out, LN_t1502.out]; done))) (av_le (by first | rfl | (simp only [List.length_set, List.length_replicate, zL_len, List.length_cons, List.length_nil, LN_a0.out, LN_t1502.out]; done) | (simp [zL_len, LN_a0.out, LN_t1502.out]; done))) (av_one (fun _ => rfl)) (av_put (by first | rfl | (simp only [List.length_set, List.length_replicate, zL_len, List.length_cons, List.length_nil, LN_a0.out, LN_t1502.out]; done) | (simp [zL_len, LN_a0.out, LN_t1502.out]; done)) (by first | rfl | (simp only [List.length_set, List.length_replicate, zL_len, List.length_cons, List.length_nil, LN_a0.out, LN_t1502.out]; done) | (simp [zL_len, LN_a0.out, LN_t1502.out]; done))) rfl _ _ rfl rfl rfl ?_; intro w1526 ho_ hB_; replace BKb1496 := hid (BKb1496.out.off ho_ NBb1496_b1505.out); replace HL := hid (ho_.below HL.out GEb1505.out); replace BKb1505 := hid hB_; clear ho_ hB_)
                | ((with_reducible refine gate_d (N := 39) rfl ?_); refine ag_fix (.agg (bv t1502)) (ex_load boardT gb1505 0 (bv t1502) (bv t1502) BKb1505.out (av_le (by first | rfl | (simp only [List.length_set, List.length_replicate, zL_len, List.length_cons, List.length_nil, LN_a0.out, LN_t1502.out]; done) | (simp [zL_len, LN_a0.out, LN_t1502.out]; done))) (av_ex (by first | rfl | (simp only [List.length_set, List.length_replicate, zL_len, List.length_cons, List.length_nil, LN_a0.out, LN_t1502.out]; done) | (simp [zL_len, LN_a0.out, LN_t1502.out]; done))) _ rfl rfl) rfl ?_)
                | ((with_reducible refine gate_d (N := 40) rfl ?_); refine ag_fix (.agg (bv a0)) (ex_load boardT gb1496 0 (bv a0) (bv a0) BKb1496.out (av_le (by first | rfl | (simp only [List.length_set, List.length_replicate, zL_len, List.length_cons, List.length_nil, LN_a0.out, LN_t1502.out]; done) | (simp [zL_len, LN_a0.out, LN_t1502.out]; done))) (av_ex (by first | rfl | (simp only [List.length_set, List.length_replicate, zL_len, List.length_cons, List.length_nil, LN_a0.out, LN_t1502.out]; done) | (simp [zL_len, LN_a0.out, LN_t1502.out]; done))) _ rfl rfl) rfl ?_)
                | ((with_reducible refine gate_d (N := 41) rfl ?_); refine ag_fix (.bool true) (ex_eq .eql 24 (.agg (bv t1502)) (.agg (bv a0)) (.bool true) (fun x_ y_ w_ => run_guard _ x_ y_ _ _ w_) (fun w_ => (eql_board t1502 a0 (by first | rfl | (simp only [List.length_set, List.length_replicate, zL_len, List.length_cons, List.length_nil, LN_a0.out, LN_t1502.out]; done) | (simp [zL_len, LN_a0.out, LN_t1502.out]; done)) (by first | rfl | (simp only [List.length_set, List.length_replicate, zL_len, List.length_cons, List.length_nil, LN_a0.out, LN_t1502.out]; done) | (simp [zL_len, LN_a0.out, LN_t1502.out]; done)) w_).trans (by first | (rw [decide_eq_true hc1514.out]; done) | (rw [decide_eq_true hc1514.out]; rfl))) _ _ _ rfl rfl rfl) rfl ?_))
              (try simp only [Act.put, List.setIfInBounds_toArray, List.set_cons_zero, List.set_cons_succ])
              go_ret
              exact ⟨by first | rfl | (simp; done) | (simp [*]; done), HL.out⟩
            · rw [if_neg c1515] at H
              have c1515b0 : (t1503 == (t1498.size : Int)) = false := beq_eq_false_iff_ne.mpr c1515
              have c1515b1 : (t1503 != (t1498.size : Int)) = true := bne_iff_ne.mpr c1515
              have hc1515 := hid c1515
              clear c1515
              obtain rfl := Option.some.inj H
              clear H
              go_enter Try.func9, Try.ntmps9
              have k1528 := True.intro
              have k1530 := True.intro
              have k1532 := True.intro
              have k1534 := True.intro
              go_wp2_with (first
                | ((with_reducible refine gate_d (N := 1) rfl ?_); obtain ⟨gb1496, hgb1496⟩ : ∃ g_, w.heap.size = g_ := ⟨_, rfl⟩; refine ag_box (bv a0) gb1496 hgb1496 rfl _ rfl rfl ?_; intro w1527 hb_ hB_ hs_; have GEb1496 : Hid (w.heap.size ≤ gb1496) := hid (by have := HL.out.size; omega); replace HL := hid (HL.out.trans (hb_.mono GEb1496.out)); have BKb1496 := hid hB_; clear hb_ hB_ hs_ hgb1496)
                | (go_at_call 36; clear k1528; refine (i_alfillaw04_wakes.calls k true _ A1506.out).mono ?_; rintro e_ w1529 ⟨rfl, hb_⟩; replace BKb1496 := hid (BKb1496.out.below hb_ BKb1496.out.lt); replace HL := hid (HL.out.trans (hb_.mono HL.out.size)); clear hb_)
                | ((with_reducible refine gate_d (N := 13) rfl ?_); refine ag_fix (.agg (bv a0)) (ex_load boardT gb1496 0 (bv a0) (bv a0) BKb1496.out (av_le (by first | rfl | (simp only [List.length_set, List.length_replicate, zL_len, List.length_cons, List.length_nil, LN_a0.out]; done) | (simp [zL_len, LN_a0.out]; done))) (av_ex (by first | rfl | (simp only [List.length_set, List.length_replicate, zL_len, List.length_cons, List.length_nil, LN_a0.out]; done) | (simp [zL_len, LN_a0.out]; done))) _ rfl rfl) rfl ?_)
                | (go_at_call 39; clear k1530; refine (i_forsyth_Write.calls k a0 (by first | rfl | (simp only [List.length_set, List.length_replicate, zL_len, List.length_cons, List.length_nil, LN_a0.out]; done) | (simp [zL_len, LN_a0.out]; done)) t1498 t1499 _ A1508.out).mono ?_; rintro e_ w1531 ⟨rfl, hb_⟩; replace BKb1496 := hid (BKb1496.out.below hb_ BKb1496.out.lt); replace HL := hid (HL.out.trans (hb_.mono HL.out.size)); clear hb_)
                | ((with_reducible refine gate_d (N := 18) rfl ?_); refine ag_fix (.agg (bv a0)) (ex_load boardT gb1496 0 (bv a0) (bv a0) BKb1496.out (av_le (by first | rfl | (simp only [List.length_set, List.length_replicate, zL_len, List.length_cons, List.length_nil, LN_a0.out]; done) | (simp [zL_len, LN_a0.out]; done))) (av_ex (by first | rfl | (simp only [List.length_set, List.length_replicate, zL_len, List.length_cons, List.length_nil, LN_a0.out]; done) | (simp [zL_len, LN_a0.out]; done))) _ rfl rfl) rfl ?_)
                | (go_at_call 40; clear k1532; refine (i_alfilref04_Write.calls k a0 (by first | rfl | (simp only [List.length_set, List.length_replicate, zL_len, List.length_cons, List.length_nil, LN_a0.out]; done) | (simp [zL_len, LN_a0.out]; done)) t1500 t1501 _ A1509.out).mono ?_; rintro e_ w1533 ⟨rfl, hb_⟩; replace BKb1496 := hid (BKb1496.out.below hb_ BKb1496.out.lt); replace HL := hid (HL.out.trans (hb_.mono HL.out.size)); clear hb_)
                | (go_at_call 37; clear k1534; refine (i_forsyth_Read.calls k t1498 t1502 t1503 t1504 _ A1512.out).mono ?_; rintro e_ w1535 ⟨rfl, ln_t1502, hb_⟩; have LN_t1502 := hid ln_t1502; clear ln_t1502; replace BKb1496 := hid (BKb1496.out.below hb_ BKb1496.out.lt); replace HL := hid (HL.out.trans (hb_.mono HL.out.size)); clear hb_)
                | ((with_reducible refine gate_d (N := 7) rfl ?_); obtain ⟨gb1505, hgb1505⟩ : ∃ g_, w1535.heap.size = g_ := ⟨_, rfl⟩; refine ag_alloc boardT gb1505 hgb1505 rfl rfl ?_; intro w1536 hb_ hB_ hs_; have GEb1505 : Hid (w.heap.size ≤ gb1505) := hid (by have := HL.out.size; omega); have NBb1496_b1505 : Hid (gb1496 ≠ gb1505) := hid (by have := BKb1496.out.lt; omega); have NBb1505_b1496 : Hid (gb1505 ≠ gb1496) := hid (by have := NBb1496_b1505.out; omega); replace BKb1496 := hid (BKb1496.out.below hb_ (by rw [← hgb1505]; exact BKb1496.out.lt)); replace HL := hid (HL.out.trans (hb_.mono GEb1505.out)); have BKb1505 := hid hB_; clear hb_ hB_ hs_ hgb1505)
                | ((with_reducible refine gate_s (t := 24) (p := 7) rfl ?_); refine ag_store boardT gb1505 0 (bv zL) (bv t1502) (bv t1502) BKb1505.out (by rw [show (bv t1502) = av (Value.int .i8) t1502 from rfl, av_size]; exact (by first | rfl | (simp only [List.length_set, List.length_replicate, zL_len, List.length_cons, List.length_nil, LN_a0.out, LN_t1502.out]; done) | (simp [zL_len, LN_a0.out, LN_t1502.out]; done))) (av_le (by first | rfl | (simp only [List.length_set, List.length_replicate, zL_len, List.length_cons, List.length_nil, LN_a0.out, LN_t1502.out]; done) | (simp [zL_len, LN_a0.out, LN_t1502.out]; done))) (av_one (fun _ => rfl)) (av_put (by first | rfl | (simp only [List.length_set, List.length_replicate, zL_len, List.length_cons, List.length_nil, LN_a0.out, LN_t1502.out]; done) | (simp [zL_len, LN_a0.out, LN_t1502.out]; done)) (by first | rfl | (simp only [List.length_set, List.length_replicate, zL_len, List.length_cons, List.length_nil, LN_a0.out, LN_t1502.out]; done) | (simp [zL_len, LN_a0.out, LN_t1502.out]; done))) rfl _ _ rfl rfl rfl ?_; intro w1537 ho_ hB_; replace BKb1496 := hid (BKb1496.out.off ho_ NBb1496_b1505.out); replace HL := hid (ho_.below HL.out GEb1505.out); replace BKb1505 := hid hB_; clear ho_ hB_)
                | ((with_reducible refine gate_d (N := 39) rfl ?_); refine ag_fix (.agg (bv t1502)) (ex_load boardT gb1505 0 (bv t1502) (bv t1502) BKb1505.out (av_le (by first | rfl | (simp only [List.length_set, List.length_replicate, zL_len, List.length_cons, List.length_nil, LN_a0.out, LN_t1502.out]; done) | (simp [zL_len, LN_a0.out, LN_t1502.out]; done))) (av_ex (by first | rfl | (simp only [List.length_set, List.length_replicate, zL_len, List.length_cons, List.length_nil, LN_a0.out, LN_t1502.out]; done) | (simp [zL_len, LN_a0.out, LN_t1502.out]; done))) _ rfl rfl) rfl ?_)
                | ((with_reducible refine gate_d (N := 40) rfl ?_); refine ag_fix (.agg (bv a0)) (ex_load boardT gb1496 0 (bv a0) (bv a0) BKb1496.out (av_le (by first | rfl | (simp only [List.length_set, List.length_replicate, zL_len, List.length_cons, List.length_nil, LN_a0.out, LN_t1502.out]; done) | (simp [zL_len, LN_a0.out, LN_t1502.out]; done))) (av_ex (by first | rfl | (simp only [List.length_set, List.length_replicate, zL_len, List.length_cons, List.length_nil, LN_a0.out, LN_t1502.out]; done) | (simp [zL_len, LN_a0.out, LN_t1502.out]; done))) _ rfl rfl) rfl ?_)
                | ((with_reducible refine gate_d (N := 41) rfl ?_); refine ag_fix (.bool true) (ex_eq .eql 24 (.agg (bv t1502)) (.agg (bv a0)) (.bool true) (fun x_ y_ w_ => run_guard _ x_ y_ _ _ w_) (fun w_ => (eql_board t1502 a0 (by first | rfl | (simp only [List.length_set, List.length_replicate, zL_len, List.length_cons, List.length_nil, LN_a0.out, LN_t1502.out]; done) | (simp [zL_len, LN_a0.out, LN_t1502.out]; done)) (by first | rfl | (simp only [List.length_set, List.length_replicate, zL_len, List.length_cons, List.length_nil, LN_a0.out, LN_t1502.out]; done) | (simp [zL_len, LN_a0.out, LN_t1502.out]; done)) w_).trans (by first | (rw [decide_eq_true hc1514.out]; done) | (rw [decide_eq_true hc1514.out]; rfl))) _ _ _ rfl rfl rfl) rfl ?_))
              (try simp only [Act.put, List.setIfInBounds_toArray, List.set_cons_zero, List.set_cons_succ])
              go_ret
              exact ⟨by first | rfl | (simp; done) | (simp [*]; done), HL.out⟩
          · rw [if_neg c1514] at H
            have c1514b0 : (t1502 == a0) = false := beq_eq_false_iff_ne.mpr c1514
            have c1514b1 : (t1502 != a0) = true := bne_iff_ne.mpr c1514
            have hc1514 := hid c1514
            clear c1514
            obtain rfl := Option.some.inj H
            clear H
            go_enter Try.func9, Try.ntmps9
            have k1539 := True.intro
            have k1541 := True.intro
            have k1543 := True.intro
            have k1545 := True.intro
            go_wp2_with (first
              | ((with_reducible refine gate_d (N := 1) rfl ?_); obtain ⟨gb1496, hgb1496⟩ : ∃ g_, w.heap.size = g_ := ⟨_, rfl⟩; refine ag_box (bv a0) gb1496 hgb1496 rfl _ rfl rfl ?_; intro w1538 hb_ hB_ hs_; have GEb1496 : Hid (w.heap.size ≤ gb1496) := hid (by have := HL.out.size; omega); replace HL := hid (HL.out.trans (hb_.mono GEb1496.out)); have BKb1496 := hid hB_; clear hb_ hB_ hs_ hgb1496)
              | (go_at_call 36; clear k1539; refine (i_alfillaw04_wakes.calls k true _ A1506.out).mono ?_; rintro e_ w1540 ⟨rfl, hb_⟩; replace BKb1496 := hid (BKb1496.out.below hb_ BKb1496.out.lt); replace HL := hid (HL.out.trans (hb_.mono HL.out.size)); clear hb_)
              | ((with_reducible refine gate_d (N := 13) rfl ?_); refine ag_fix (.agg (bv a0)) (ex_load boardT gb1496 0 (bv a0) (bv a0) BKb1496.out (av_le (by first | rfl | (simp only [List.length_set, List.length_replicate, zL_len, List.length_cons, List.length_nil, LN_a0.out]; done) | (simp [zL_len, LN_a0.out]; done))) (av_ex (by first | rfl | (simp only [List.length_set, List.length_replicate, zL_len, List.length_cons, List.length_nil, LN_a0.out]; done) | (simp [zL_len, LN_a0.out]; done))) _ rfl rfl) rfl ?_)
              | (go_at_call 39; clear k1541; refine (i_forsyth_Write.calls k a0 (by first | rfl | (simp only [List.length_set, List.length_replicate, zL_len, List.length_cons, List.length_nil, LN_a0.out]; done) | (simp [zL_len, LN_a0.out]; done)) t1498 t1499 _ A1508.out).mono ?_; rintro e_ w1542 ⟨rfl, hb_⟩; replace BKb1496 := hid (BKb1496.out.below hb_ BKb1496.out.lt); replace HL := hid (HL.out.trans (hb_.mono HL.out.size)); clear hb_)
              | ((with_reducible refine gate_d (N := 18) rfl ?_); refine ag_fix (.agg (bv a0)) (ex_load boardT gb1496 0 (bv a0) (bv a0) BKb1496.out (av_le (by first | rfl | (simp only [List.length_set, List.length_replicate, zL_len, List.length_cons, List.length_nil, LN_a0.out]; done) | (simp [zL_len, LN_a0.out]; done))) (av_ex (by first | rfl | (simp only [List.length_set, List.length_replicate, zL_len, List.length_cons, List.length_nil, LN_a0.out]; done) | (simp [zL_len, LN_a0.out]; done))) _ rfl rfl) rfl ?_)
              | (go_at_call 40; clear k1543; refine (i_alfilref04_Write.calls k a0 (by first | rfl | (simp only [List.length_set, List.length_replicate, zL_len, List.length_cons, List.length_nil, LN_a0.out]; done) | (simp [zL_len, LN_a0.out]; done)) t1500 t1501 _ A1509.out).mono ?_; rintro e_ w1544 ⟨rfl, hb_⟩; replace BKb1496 := hid (BKb1496.out.below hb_ BKb1496.out.lt); replace HL := hid (HL.out.trans (hb_.mono HL.out.size)); clear hb_)
              | (go_at_call 37; clear k1545; refine (i_forsyth_Read.calls k t1498 t1502 t1503 t1504 _ A1512.out).mono ?_; rintro e_ w1546 ⟨rfl, ln_t1502, hb_⟩; have LN_t1502 := hid ln_t1502; clear ln_t1502; replace BKb1496 := hid (BKb1496.out.below hb_ BKb1496.out.lt); replace HL := hid (HL.out.trans (hb_.mono HL.out.size)); clear hb_)
              | ((with_reducible refine gate_d (N := 7) rfl ?_); obtain ⟨gb1505, hgb1505⟩ : ∃ g_, w1546.heap.size = g_ := ⟨_, rfl⟩; refine ag_alloc boardT gb1505 hgb1505 rfl rfl ?_; intro w1547 hb_ hB_ hs_; have GEb1505 : Hid (w.heap.size ≤ gb1505) := hid (by have := HL.out.size; omega); have NBb1496_b1505 : Hid (gb1496 ≠ gb1505) := hid (by have := BKb1496.out.lt; omega); have NBb1505_b1496 : Hid (gb1505 ≠ gb1496) := hid (by have := NBb1496_b1505.out; omega); replace BKb1496 := hid (BKb1496.out.below hb_ (by rw [← hgb1505]; exact BKb1496.out.lt)); replace HL := hid (HL.out.trans (hb_.mono GEb1505.out)); have BKb1505 := hid hB_; clear hb_ hB_ hs_ hgb1505)
              | ((with_reducible refine gate_s (t := 24) (p := 7) rfl ?_); refine ag_store boardT gb1505 0 (bv zL) (bv t1502) (bv t1502) BKb1505.out (by rw [show (bv t1502) = av (Value.int .i8) t1502 from rfl, av_size]; exact (by first | rfl | (simp only [List.length_set, List.length_replicate, zL_len, List.length_cons, List.length_nil, LN_a0.out, LN_t1502.out]; done) | (simp [zL_len, LN_a0.out, LN_t1502.out]; done))) (av_le (by first | rfl | (simp only [List.length_set, List.length_replicate, zL_len, List.length_cons, List.length_nil, LN_a0.out, LN_t1502.out]; done) | (simp [zL_len, LN_a0.out, LN_t1502.out]; done))) (av_one (fun _ => rfl)) (av_put (by first | rfl | (simp only [List.length_set, List.length_replicate, zL_len, List.length_cons, List.length_nil, LN_a0.out, LN_t1502.out]; done) | (simp [zL_len, LN_a0.out, LN_t1502.out]; done)) (by first | rfl | (simp only [List.length_set, List.length_replicate, zL_len, List.length_cons, List.length_nil, LN_a0.out, LN_t1502.out]; done) | (simp [zL_len, LN_a0.out, LN_t1502.out]; done))) rfl _ _ rfl rfl rfl ?_; intro w1548 ho_ hB_; replace BKb1496 := hid (BKb1496.out.off ho_ NBb1496_b1505.out); replace HL := hid (ho_.below HL.out GEb1505.out); replace BKb1505 := hid hB_; clear ho_ hB_)
              | ((with_reducible refine gate_d (N := 39) rfl ?_); refine ag_fix (.agg (bv t1502)) (ex_load boardT gb1505 0 (bv t1502) (bv t1502) BKb1505.out (av_le (by first | rfl | (simp only [List.length_set, List.length_replicate, zL_len, List.length_cons, List.length_nil, LN_a0.out, LN_t1502.out]; done) | (simp [zL_len, LN_a0.out, LN_t1502.out]; done))) (av_ex (by first | rfl | (simp only [List.length_set, List.length_replicate, zL_len, List.length_cons, List.length_nil, LN_a0.out, LN_t1502.out]; done) | (simp [zL_len, LN_a0.out, LN_t1502.out]; done))) _ rfl rfl) rfl ?_)
              | ((with_reducible refine gate_d (N := 40) rfl ?_); refine ag_fix (.agg (bv a0)) (ex_load boardT gb1496 0 (bv a0) (bv a0) BKb1496.out (av_le (by first | rfl | (simp only [List.length_set, List.length_replicate, zL_len, List.length_cons, List.length_nil, LN_a0.out, LN_t1502.out]; done) | (simp [zL_len, LN_a0.out, LN_t1502.out]; done))) (av_ex (by first | rfl | (simp only [List.length_set, List.length_replicate, zL_len, List.length_cons, List.length_nil, LN_a0.out, LN_t1502.out]; done) | (simp [zL_len, LN_a0.out, LN_t1502.out]; done))) _ rfl rfl) rfl ?_)
              | ((with_reducible refine gate_d (N := 41) rfl ?_); refine ag_fix (.bool false) (ex_eq .eql 24 (.agg (bv t1502)) (.agg (bv a0)) (.bool false) (fun x_ y_ w_ => run_guard _ x_ y_ _ _ w_) (fun w_ => (eql_board t1502 a0 (by first | rfl | (simp only [List.length_set, List.length_replicate, zL_len, List.length_cons, List.length_nil, LN_a0.out, LN_t1502.out]; done) | (simp [zL_len, LN_a0.out, LN_t1502.out]; done)) (by first | rfl | (simp only [List.length_set, List.length_replicate, zL_len, List.length_cons, List.length_nil, LN_a0.out, LN_t1502.out]; done) | (simp [zL_len, LN_a0.out, LN_t1502.out]; done)) w_).trans (by first | (rw [decide_eq_false hc1514.out]; done) | (rw [decide_eq_false hc1514.out]; rfl))) _ _ _ rfl rfl rfl) rfl ?_))
            (try simp only [Act.put, List.setIfInBounds_toArray, List.set_cons_zero, List.set_cons_succ])
            go_ret
            exact ⟨by first | rfl | (simp; done) | (simp [*]; done), HL.out⟩
        · rw [if_neg c1513] at H
          have c1513b0 : (t1499 == 0) = false := beq_eq_false_iff_ne.mpr c1513
          have c1513b1 : (t1499 != 0) = true := bne_iff_ne.mpr c1513
          have hc1513 := hid c1513
          clear c1513
          obtain rfl := Option.some.inj H
          clear H
          go_enter Try.func9, Try.ntmps9
          have k1550 := True.intro
          have k1552 := True.intro
          have k1554 := True.intro
          have k1556 := True.intro
          go_wp2_with (first
            | ((with_reducible refine gate_d (N := 1) rfl ?_); obtain ⟨gb1496, hgb1496⟩ : ∃ g_, w.heap.size = g_ := ⟨_, rfl⟩; refine ag_box (bv a0) gb1496 hgb1496 rfl _ rfl rfl ?_; intro w1549 hb_ hB_ hs_; have GEb1496 : Hid (w.heap.size ≤ gb1496) := hid (by have := HL.out.size; omega); replace HL := hid (HL.out.trans (hb_.mono GEb1496.out)); have BKb1496 := hid hB_; clear hb_ hB_ hs_ hgb1496)
            | (go_at_call 36; clear k1550; refine (i_alfillaw04_wakes.calls k true _ A1506.out).mono ?_; rintro e_ w1551 ⟨rfl, hb_⟩; replace BKb1496 := hid (BKb1496.out.below hb_ BKb1496.out.lt); replace HL := hid (HL.out.trans (hb_.mono HL.out.size)); clear hb_)
            | ((with_reducible refine gate_d (N := 13) rfl ?_); refine ag_fix (.agg (bv a0)) (ex_load boardT gb1496 0 (bv a0) (bv a0) BKb1496.out (av_le (by first | rfl | (simp only [List.length_set, List.length_replicate, zL_len, List.length_cons, List.length_nil, LN_a0.out]; done) | (simp [zL_len, LN_a0.out]; done))) (av_ex (by first | rfl | (simp only [List.length_set, List.length_replicate, zL_len, List.length_cons, List.length_nil, LN_a0.out]; done) | (simp [zL_len, LN_a0.out]; done))) _ rfl rfl) rfl ?_)
            | (go_at_call 39; clear k1552; refine (i_forsyth_Write.calls k a0 (by first | rfl | (simp only [List.length_set, List.length_replicate, zL_len, List.length_cons, List.length_nil, LN_a0.out]; done) | (simp [zL_len, LN_a0.out]; done)) t1498 t1499 _ A1508.out).mono ?_; rintro e_ w1553 ⟨rfl, hb_⟩; replace BKb1496 := hid (BKb1496.out.below hb_ BKb1496.out.lt); replace HL := hid (HL.out.trans (hb_.mono HL.out.size)); clear hb_)
            | ((with_reducible refine gate_d (N := 18) rfl ?_); refine ag_fix (.agg (bv a0)) (ex_load boardT gb1496 0 (bv a0) (bv a0) BKb1496.out (av_le (by first | rfl | (simp only [List.length_set, List.length_replicate, zL_len, List.length_cons, List.length_nil, LN_a0.out]; done) | (simp [zL_len, LN_a0.out]; done))) (av_ex (by first | rfl | (simp only [List.length_set, List.length_replicate, zL_len, List.length_cons, List.length_nil, LN_a0.out]; done) | (simp [zL_len, LN_a0.out]; done))) _ rfl rfl) rfl ?_)
            | (go_at_call 40; clear k1554; refine (i_alfilref04_Write.calls k a0 (by first | rfl | (simp only [List.length_set, List.length_replicate, zL_len, List.length_cons, List.length_nil, LN_a0.out]; done) | (simp [zL_len, LN_a0.out]; done)) t1500 t1501 _ A1509.out).mono ?_; rintro e_ w1555 ⟨rfl, hb_⟩; replace BKb1496 := hid (BKb1496.out.below hb_ BKb1496.out.lt); replace HL := hid (HL.out.trans (hb_.mono HL.out.size)); clear hb_)
            | (go_at_call 37; clear k1556; refine (i_forsyth_Read.calls k t1498 t1502 t1503 t1504 _ A1512.out).mono ?_; rintro e_ w1557 ⟨rfl, ln_t1502, hb_⟩; have LN_t1502 := hid ln_t1502; clear ln_t1502; replace BKb1496 := hid (BKb1496.out.below hb_ BKb1496.out.lt); replace HL := hid (HL.out.trans (hb_.mono HL.out.size)); clear hb_)
            | ((with_reducible refine gate_d (N := 7) rfl ?_); obtain ⟨gb1505, hgb1505⟩ : ∃ g_, w1557.heap.size = g_ := ⟨_, rfl⟩; refine ag_alloc boardT gb1505 hgb1505 rfl rfl ?_; intro w1558 hb_ hB_ hs_; have GEb1505 : Hid (w.heap.size ≤ gb1505) := hid (by have := HL.out.size; omega); have NBb1496_b1505 : Hid (gb1496 ≠ gb1505) := hid (by have := BKb1496.out.lt; omega); have NBb1505_b1496 : Hid (gb1505 ≠ gb1496) := hid (by have := NBb1496_b1505.out; omega); replace BKb1496 := hid (BKb1496.out.below hb_ (by rw [← hgb1505]; exact BKb1496.out.lt)); replace HL := hid (HL.out.trans (hb_.mono GEb1505.out)); have BKb1505 := hid hB_; clear hb_ hB_ hs_ hgb1505)
            | ((with_reducible refine gate_s (t := 24) (p := 7) rfl ?_); refine ag_store boardT gb1505 0 (bv zL) (bv t1502) (bv t1502) BKb1505.out (by rw [show (bv t1502) = av (Value.int .i8) t1502 from rfl, av_size]; exact (by first | rfl | (simp only [List.length_set, List.length_replicate, zL_len, List.length_cons, List.length_nil, LN_a0.out, LN_t1502.out]; done) | (simp [zL_len, LN_a0.out, LN_t1502.out]; done))) (av_le (by first | rfl | (simp only [List.length_set, List.length_replicate, zL_len, List.length_cons, List.length_nil, LN_a0.out, LN_t1502.out]; done) | (simp [zL_len, LN_a0.out, LN_t1502.out]; done))) (av_one (fun _ => rfl)) (av_put (by first | rfl | (simp only [List.length_set, List.length_replicate, zL_len, List.length_cons, List.length_nil, LN_a0.out, LN_t1502.out]; done) | (simp [zL_len, LN_a0.out, LN_t1502.out]; done)) (by first | rfl | (simp only [List.length_set, List.length_replicate, zL_len, List.length_cons, List.length_nil, LN_a0.out, LN_t1502.out]; done) | (simp [zL_len, LN_a0.out, LN_t1502.out]; done))) rfl _ _ rfl rfl rfl ?_; intro w1559 ho_ hB_; replace BKb1496 := hid (BKb1496.out.off ho_ NBb1496_b1505.out); replace HL := hid (ho_.below HL.out GEb1505.out); replace BKb1505 := hid hB_; clear ho_ hB_))
          (try simp only [Act.put, List.setIfInBounds_toArray, List.set_cons_zero, List.set_cons_succ])
          go_ret
          exact ⟨by first | rfl | (simp; done) | (simp [*]; done), HL.out⟩
      · rw [if_neg c1511] at H
        have c1511b0 : (t1499 == t1501) = false := beq_eq_false_iff_ne.mpr c1511
        have c1511b1 : (t1499 != t1501) = true := bne_iff_ne.mpr c1511
        have hc1511 := hid c1511
        clear c1511
        obtain rfl := Option.some.inj H
        clear H
        go_enter Try.func9, Try.ntmps9
        have k1561 := True.intro
        have k1563 := True.intro
        have k1565 := True.intro
        go_wp2_with (first
          | ((with_reducible refine gate_d (N := 1) rfl ?_); obtain ⟨gb1496, hgb1496⟩ : ∃ g_, w.heap.size = g_ := ⟨_, rfl⟩; refine ag_box (bv a0) gb1496 hgb1496 rfl _ rfl rfl ?_; intro w1560 hb_ hB_ hs_; have GEb1496 : Hid (w.heap.size ≤ gb1496) := hid (by have := HL.out.size; omega); replace HL := hid (HL.out.trans (hb_.mono GEb1496.out)); have BKb1496 := hid hB_; clear hb_ hB_ hs_ hgb1496)
          | (go_at_call 36; clear k1561; refine (i_alfillaw04_wakes.calls k true _ A1506.out).mono ?_; rintro e_ w1562 ⟨rfl, hb_⟩; replace BKb1496 := hid (BKb1496.out.below hb_ BKb1496.out.lt); replace HL := hid (HL.out.trans (hb_.mono HL.out.size)); clear hb_)
          | ((with_reducible refine gate_d (N := 13) rfl ?_); refine ag_fix (.agg (bv a0)) (ex_load boardT gb1496 0 (bv a0) (bv a0) BKb1496.out (av_le (by first | rfl | (simp only [List.length_set, List.length_replicate, zL_len, List.length_cons, List.length_nil, LN_a0.out]; done) | (simp [zL_len, LN_a0.out]; done))) (av_ex (by first | rfl | (simp only [List.length_set, List.length_replicate, zL_len, List.length_cons, List.length_nil, LN_a0.out]; done) | (simp [zL_len, LN_a0.out]; done))) _ rfl rfl) rfl ?_)
          | (go_at_call 39; clear k1563; refine (i_forsyth_Write.calls k a0 (by first | rfl | (simp only [List.length_set, List.length_replicate, zL_len, List.length_cons, List.length_nil, LN_a0.out]; done) | (simp [zL_len, LN_a0.out]; done)) t1498 t1499 _ A1508.out).mono ?_; rintro e_ w1564 ⟨rfl, hb_⟩; replace BKb1496 := hid (BKb1496.out.below hb_ BKb1496.out.lt); replace HL := hid (HL.out.trans (hb_.mono HL.out.size)); clear hb_)
          | ((with_reducible refine gate_d (N := 18) rfl ?_); refine ag_fix (.agg (bv a0)) (ex_load boardT gb1496 0 (bv a0) (bv a0) BKb1496.out (av_le (by first | rfl | (simp only [List.length_set, List.length_replicate, zL_len, List.length_cons, List.length_nil, LN_a0.out]; done) | (simp [zL_len, LN_a0.out]; done))) (av_ex (by first | rfl | (simp only [List.length_set, List.length_replicate, zL_len, List.length_cons, List.length_nil, LN_a0.out]; done) | (simp [zL_len, LN_a0.out]; done))) _ rfl rfl) rfl ?_)
          | (go_at_call 40; clear k1565; refine (i_alfilref04_Write.calls k a0 (by first | rfl | (simp only [List.length_set, List.length_replicate, zL_len, List.length_cons, List.length_nil, LN_a0.out]; done) | (simp [zL_len, LN_a0.out]; done)) t1500 t1501 _ A1509.out).mono ?_; rintro e_ w1566 ⟨rfl, hb_⟩; replace BKb1496 := hid (BKb1496.out.below hb_ BKb1496.out.lt); replace HL := hid (HL.out.trans (hb_.mono HL.out.size)); clear hb_))
        (try simp only [Act.put, List.setIfInBounds_toArray, List.set_cons_zero, List.set_cons_succ])
        go_ret
        exact ⟨by first | rfl | (simp; done) | (simp [*]; done), HL.out⟩
    · rw [if_neg c1510] at H
      have c1510b0 : (t1498.toList == t1500.toList) = false := beq_eq_false_iff_ne.mpr c1510
      have c1510b1 : (t1498.toList != t1500.toList) = true := bne_iff_ne.mpr c1510
      have hc1510 := hid c1510
      clear c1510
      obtain rfl := Option.some.inj H
      clear H
      go_enter Try.func9, Try.ntmps9
      have k1568 := True.intro
      have k1570 := True.intro
      have k1572 := True.intro
      go_wp2_with (first
        | ((with_reducible refine gate_d (N := 1) rfl ?_); obtain ⟨gb1496, hgb1496⟩ : ∃ g_, w.heap.size = g_ := ⟨_, rfl⟩; refine ag_box (bv a0) gb1496 hgb1496 rfl _ rfl rfl ?_; intro w1567 hb_ hB_ hs_; have GEb1496 : Hid (w.heap.size ≤ gb1496) := hid (by have := HL.out.size; omega); replace HL := hid (HL.out.trans (hb_.mono GEb1496.out)); have BKb1496 := hid hB_; clear hb_ hB_ hs_ hgb1496)
        | (go_at_call 36; clear k1568; refine (i_alfillaw04_wakes.calls k true _ A1506.out).mono ?_; rintro e_ w1569 ⟨rfl, hb_⟩; replace BKb1496 := hid (BKb1496.out.below hb_ BKb1496.out.lt); replace HL := hid (HL.out.trans (hb_.mono HL.out.size)); clear hb_)
        | ((with_reducible refine gate_d (N := 13) rfl ?_); refine ag_fix (.agg (bv a0)) (ex_load boardT gb1496 0 (bv a0) (bv a0) BKb1496.out (av_le (by first | rfl | (simp only [List.length_set, List.length_replicate, zL_len, List.length_cons, List.length_nil, LN_a0.out]; done) | (simp [zL_len, LN_a0.out]; done))) (av_ex (by first | rfl | (simp only [List.length_set, List.length_replicate, zL_len, List.length_cons, List.length_nil, LN_a0.out]; done) | (simp [zL_len, LN_a0.out]; done))) _ rfl rfl) rfl ?_)
        | (go_at_call 39; clear k1570; refine (i_forsyth_Write.calls k a0 (by first | rfl | (simp only [List.length_set, List.length_replicate, zL_len, List.length_cons, List.length_nil, LN_a0.out]; done) | (simp [zL_len, LN_a0.out]; done)) t1498 t1499 _ A1508.out).mono ?_; rintro e_ w1571 ⟨rfl, hb_⟩; replace BKb1496 := hid (BKb1496.out.below hb_ BKb1496.out.lt); replace HL := hid (HL.out.trans (hb_.mono HL.out.size)); clear hb_)
        | ((with_reducible refine gate_d (N := 18) rfl ?_); refine ag_fix (.agg (bv a0)) (ex_load boardT gb1496 0 (bv a0) (bv a0) BKb1496.out (av_le (by first | rfl | (simp only [List.length_set, List.length_replicate, zL_len, List.length_cons, List.length_nil, LN_a0.out]; done) | (simp [zL_len, LN_a0.out]; done))) (av_ex (by first | rfl | (simp only [List.length_set, List.length_replicate, zL_len, List.length_cons, List.length_nil, LN_a0.out]; done) | (simp [zL_len, LN_a0.out]; done))) _ rfl rfl) rfl ?_)
        | (go_at_call 40; clear k1572; refine (i_alfilref04_Write.calls k a0 (by first | rfl | (simp only [List.length_set, List.length_replicate, zL_len, List.length_cons, List.length_nil, LN_a0.out]; done) | (simp [zL_len, LN_a0.out]; done)) t1500 t1501 _ A1509.out).mono ?_; rintro e_ w1573 ⟨rfl, hb_⟩; replace BKb1496 := hid (BKb1496.out.below hb_ BKb1496.out.lt); replace HL := hid (HL.out.trans (hb_.mono HL.out.size)); clear hb_))
      (try simp only [Act.put, List.setIfInBounds_toArray, List.set_cons_zero, List.set_cons_succ])
      go_ret
      exact ⟨by first | rfl | (simp; done) | (simp [*]; done), HL.out⟩
  | false =>
    rw [if_neg (show ¬ (false = true) by decide)] at H
    obtain rfl := Option.some.inj H
    clear H
    go_enter Try.func9, Try.ntmps9
    have k1575 := True.intro
    go_wp2_with (first
      | ((with_reducible refine gate_d (N := 1) rfl ?_); obtain ⟨gb1496, hgb1496⟩ : ∃ g_, w.heap.size = g_ := ⟨_, rfl⟩; refine ag_box (bv a0) gb1496 hgb1496 rfl _ rfl rfl ?_; intro w1574 hb_ hB_ hs_; have GEb1496 : Hid (w.heap.size ≤ gb1496) := hid (by have := HL.out.size; omega); replace HL := hid (HL.out.trans (hb_.mono GEb1496.out)); have BKb1496 := hid hB_; clear hb_ hB_ hs_ hgb1496)
      | (go_at_call 36; clear k1575; refine (i_alfillaw04_wakes.calls k false _ A1506.out).mono ?_; rintro e_ w1576 ⟨rfl, hb_⟩; replace BKb1496 := hid (BKb1496.out.below hb_ BKb1496.out.lt); replace HL := hid (HL.out.trans (hb_.mono HL.out.size)); clear hb_))
    (try simp only [Act.put, List.setIfInBounds_toArray, List.set_cons_zero, List.set_cons_succ])
    go_ret
    exact ⟨by first | rfl | (simp; done) | (simp [*]; done), HL.out⟩
/-! i_alfillaw04_ForsythShortest: function 10 -/
def i_alfillaw04_ForsythShortest.f (k : Nat) (a0 : ByteArray) : Option (Bool) := (i_alfillaw04_wakes.f k).bind fun t1577 => (if t1577 = true then (if (a0.size : Int) > 200 then (some true) else ((i_forsyth_Read.f k a0).bind fun bt1578 => (if bt1578.2.2 = 0 then ((i_forsyth_Write.f k bt1578.1).bind fun bt1582 => ((i_forsyth_Read.f k bt1582.1).bind fun bt1584 => (if bt1582.2 = 0 then (if (bt1582.1.size : Int) ≤ (a0.size : Int) then (if bt1584.2.2 = 0 then (if bt1584.1 = bt1578.1 then (some true) else (some false)) else (some false)) else (some false)) else (some false)))) else (if bt1578.1 = zL then (some true) else (some false))))) else (some false))
set_option maxHeartbeats 40000000 in
set_option maxRecDepth 100000 in
theorem i_alfillaw04_ForsythShortest.calls (k : Nat) (a0 : ByteArray) (r1 : Bool) (w : World) (h : i_alfillaw04_ForsythShortest.f k a0 = some r1) :
    Calls Try.prog 10 #[.string a0] w fun e w' => e = .returned (.bool r1) ∧ Below w.heap.size w w' := by
  have HL := hid (Below.refl w.heap.size w)
  have H : ((i_alfillaw04_wakes.f k).bind fun t1577 => (if t1577 = true then (if (a0.size : Int) > 200 then (some true) else ((i_forsyth_Read.f k a0).bind fun bt1578 => (if bt1578.2.2 = 0 then ((i_forsyth_Write.f k bt1578.1).bind fun bt1582 => ((i_forsyth_Read.f k bt1582.1).bind fun bt1584 => (if bt1582.2 = 0 then (if (bt1582.1.size : Int) ≤ (a0.size : Int) then (if bt1584.2.2 = 0 then (if bt1584.1 = bt1578.1 then (some true) else (some false)) else (some false)) else (some false)) else (some false)))) else (if bt1578.1 = zL then (some true) else (some false))))) else (some false))) = some r1 := h
  clear h
  replace H := Option.bind_eq_some_iff.mp H
  obtain ⟨t1577, A1588_, H⟩ := H
  replace H : (if t1577 = true then (if (a0.size : Int) > 200 then (some true) else ((i_forsyth_Read.f k a0).bind fun bt1578 => (if bt1578.2.2 = 0 then ((i_forsyth_Write.f k bt1578.1).bind fun bt1582 => ((i_forsyth_Read.f k bt1582.1).bind fun bt1584 => (if bt1582.2 = 0 then (if (bt1582.1.size : Int) ≤ (a0.size : Int) then (if bt1584.2.2 = 0 then (if bt1584.1 = bt1578.1 then (some true) else (some false)) else (some false)) else (some false)) else (some false)))) else (if bt1578.1 = zL then (some true) else (some false))))) else (some false)) = some r1 := H
  have A1588 := hid A1588_
  clear A1588_
  cases t1577 with
  | true =>
    rw [if_pos rfl] at H
    by_cases c1590 : (a0.size : Int) > 200
    · rw [if_pos c1590] at H
      have c1590b0 : decide (200 < (a0.size : Int)) = true := decide_eq_true c1590
      have c1590b1 : decide (200 < a0.size) = true := decide_eq_true (by omega)
      have hc1590 := hid c1590
      clear c1590
      obtain rfl := Option.some.inj H
      clear H
      go_enter Try.func10, Try.ntmps10
      have k1591 := True.intro
      go_wp2_with (first
        | (go_at_call 36; clear k1591; refine (i_alfillaw04_wakes.calls k true _ A1588.out).mono ?_; rintro e_ w1592 ⟨rfl, hb_⟩; replace HL := hid (HL.out.trans (hb_.mono HL.out.size)); clear hb_))
      (try simp only [Act.put, List.setIfInBounds_toArray, List.set_cons_zero, List.set_cons_succ])
      go_ret
      exact ⟨by first | rfl | (simp; done) | (simp [*]; done), HL.out⟩
    · rw [if_neg c1590] at H
      have c1590b0 : decide (200 < (a0.size : Int)) = false := decide_eq_false c1590
      have c1590b1 : decide (200 < a0.size) = false := decide_eq_false (by omega)
      have hc1590 := hid c1590
      clear c1590
      replace H := Option.bind_eq_some_iff.mp H
      obtain ⟨⟨t1578, t1579, t1580⟩, A1593_, H⟩ := H
      replace H : (if t1580 = 0 then ((i_forsyth_Write.f k t1578).bind fun bt1582 => ((i_forsyth_Read.f k bt1582.1).bind fun bt1584 => (if bt1582.2 = 0 then (if (bt1582.1.size : Int) ≤ (a0.size : Int) then (if bt1584.2.2 = 0 then (if bt1584.1 = t1578 then (some true) else (some false)) else (some false)) else (some false)) else (some false)))) else (if t1578 = zL then (some true) else (some false))) = some r1 := H
      have A1593 := hid A1593_
      clear A1593_
      by_cases c1594 : t1580 = 0
      · rw [if_pos c1594] at H
        have c1594b0 : (t1580 == 0) = true := beq_iff_eq.mpr c1594
        have c1594b1 : (t1580 != 0) = false := bne_eq_false_iff_eq.mpr c1594
        have hc1594 := hid c1594
        clear c1594
        replace H := Option.bind_eq_some_iff.mp H
        obtain ⟨⟨t1582, t1583⟩, A1595_, H⟩ := H
        replace H : ((i_forsyth_Read.f k t1582).bind fun bt1584 => (if t1583 = 0 then (if (t1582.size : Int) ≤ (a0.size : Int) then (if bt1584.2.2 = 0 then (if bt1584.1 = t1578 then (some true) else (some false)) else (some false)) else (some false)) else (some false))) = some r1 := H
        have A1595 := hid A1595_
        clear A1595_
        replace H := Option.bind_eq_some_iff.mp H
        obtain ⟨⟨t1584, t1585, t1586⟩, A1596_, H⟩ := H
        replace H : (if t1583 = 0 then (if (t1582.size : Int) ≤ (a0.size : Int) then (if t1586 = 0 then (if t1584 = t1578 then (some true) else (some false)) else (some false)) else (some false)) else (some false)) = some r1 := H
        have A1596 := hid A1596_
        clear A1596_
        by_cases c1597 : t1583 = 0
        · rw [if_pos c1597] at H
          have c1597b0 : (t1583 == 0) = true := beq_iff_eq.mpr c1597
          have c1597b1 : (t1583 != 0) = false := bne_eq_false_iff_eq.mpr c1597
          have hc1597 := hid c1597
          clear c1597
          by_cases c1598 : (t1582.size : Int) ≤ (a0.size : Int)
          · rw [if_pos c1598] at H
            have c1598b0 : decide ((t1582.size : Int) ≤ (a0.size : Int)) = true := decide_eq_true c1598
            have c1598b1 : decide (t1582.size ≤ a0.size) = true := decide_eq_true (Int.ofNat_le.mp c1598)
            have hc1598 := hid c1598
            clear c1598
            by_cases c1599 : t1586 = 0
            · rw [if_pos c1599] at H
              have c1599b0 : (t1586 == 0) = true := beq_iff_eq.mpr c1599
              have c1599b1 : (t1586 != 0) = false := bne_eq_false_iff_eq.mpr c1599
              have hc1599 := hid c1599
              clear c1599
              by_cases c1600 : t1584 = t1578
              · rw [if_pos c1600] at H
                have c1600b0 : (t1584 == t1578) = true := beq_iff_eq.mpr c1600
                have c1600b1 : (t1584 != t1578) = false := bne_eq_false_iff_eq.mpr c1600
                have hc1600 := hid c1600
                clear c1600
                obtain rfl := Option.some.inj H
                clear H
                go_enter Try.func10, Try.ntmps10
                have k1601 := True.intro
                have k1603 := True.intro
                have k1607 := True.intro
                have k1609 := True.intro
                go_wp2_with (first
                  | (go_at_call 36; clear k1601; refine (i_alfillaw04_wakes.calls k true _ A1588.out).mono ?_; rintro e_ w1602 ⟨rfl, hb_⟩; replace HL := hid (HL.out.trans (hb_.mono HL.out.size)); clear hb_)
                  | (go_at_call 37; clear k1603; refine (i_forsyth_Read.calls k a0 t1578 t1579 t1580 _ A1593.out).mono ?_; rintro e_ w1604 ⟨rfl, ln_t1578, hb_⟩; have LN_t1578 := hid ln_t1578; clear ln_t1578; replace HL := hid (HL.out.trans (hb_.mono HL.out.size)); clear hb_)
                  | ((with_reducible refine gate_d (N := 3) rfl ?_); obtain ⟨gb1581, hgb1581⟩ : ∃ g_, w1604.heap.size = g_ := ⟨_, rfl⟩; refine ag_alloc boardT gb1581 hgb1581 rfl rfl ?_; intro w1605 hb_ hB_ hs_; have GEb1581 : Hid (w.heap.size ≤ gb1581) := hid (by have := HL.out.size; omega); replace HL := hid (HL.out.trans (hb_.mono GEb1581.out)); have BKb1581 := hid hB_; clear hb_ hB_ hs_ hgb1581)
                  | ((with_reducible refine gate_s (t := 24) (p := 3) rfl ?_); refine ag_store boardT gb1581 0 (bv zL) (bv t1578) (bv t1578) BKb1581.out (by rw [show (bv t1578) = av (Value.int .i8) t1578 from rfl, av_size]; exact (by first | rfl | (simp only [List.length_set, List.length_replicate, zL_len, List.length_cons, List.length_nil, LN_t1578.out]; done) | (simp [zL_len, LN_t1578.out]; done))) (av_le (by first | rfl | (simp only [List.length_set, List.length_replicate, zL_len, List.length_cons, List.length_nil, LN_t1578.out]; done) | (simp [zL_len, LN_t1578.out]; done))) (av_one (fun _ => rfl)) (av_put (by first | rfl | (simp only [List.length_set, List.length_replicate, zL_len, List.length_cons, List.length_nil, LN_t1578.out]; done) | (simp [zL_len, LN_t1578.out]; done)) (by first | rfl | (simp only [List.length_set, List.length_replicate, zL_len, List.length_cons, List.length_nil, LN_t1578.out]; done) | (simp [zL_len, LN_t1578.out]; done))) rfl _ _ rfl rfl rfl ?_; intro w1606 ho_ hB_; replace HL := hid (ho_.below HL.out GEb1581.out); replace BKb1581 := hid hB_; clear ho_ hB_)
                  | ((with_reducible refine gate_d (N := 28) rfl ?_); refine ag_fix (.agg (bv t1578)) (ex_load boardT gb1581 0 (bv t1578) (bv t1578) BKb1581.out (av_le (by first | rfl | (simp only [List.length_set, List.length_replicate, zL_len, List.length_cons, List.length_nil, LN_t1578.out]; done) | (simp [zL_len, LN_t1578.out]; done))) (av_ex (by first | rfl | (simp only [List.length_set, List.length_replicate, zL_len, List.length_cons, List.length_nil, LN_t1578.out]; done) | (simp [zL_len, LN_t1578.out]; done))) _ rfl rfl) rfl ?_)
                  | (go_at_call 39; clear k1607; refine (i_forsyth_Write.calls k t1578 (by first | rfl | (simp only [List.length_set, List.length_replicate, zL_len, List.length_cons, List.length_nil, LN_t1578.out]; done) | (simp [zL_len, LN_t1578.out]; done)) t1582 t1583 _ A1595.out).mono ?_; rintro e_ w1608 ⟨rfl, hb_⟩; replace BKb1581 := hid (BKb1581.out.below hb_ BKb1581.out.lt); replace HL := hid (HL.out.trans (hb_.mono HL.out.size)); clear hb_)
                  | (go_at_call 37; clear k1609; refine (i_forsyth_Read.calls k t1582 t1584 t1585 t1586 _ A1596.out).mono ?_; rintro e_ w1610 ⟨rfl, ln_t1584, hb_⟩; have LN_t1584 := hid ln_t1584; clear ln_t1584; replace BKb1581 := hid (BKb1581.out.below hb_ BKb1581.out.lt); replace HL := hid (HL.out.trans (hb_.mono HL.out.size)); clear hb_)
                  | ((with_reducible refine gate_d (N := 8) rfl ?_); obtain ⟨gb1587, hgb1587⟩ : ∃ g_, w1610.heap.size = g_ := ⟨_, rfl⟩; refine ag_alloc boardT gb1587 hgb1587 rfl rfl ?_; intro w1611 hb_ hB_ hs_; have GEb1587 : Hid (w.heap.size ≤ gb1587) := hid (by have := HL.out.size; omega); have NBb1581_b1587 : Hid (gb1581 ≠ gb1587) := hid (by have := BKb1581.out.lt; omega); have NBb1587_b1581 : Hid (gb1587 ≠ gb1581) := hid (by have := NBb1581_b1587.out; omega); replace BKb1581 := hid (BKb1581.out.below hb_ (by rw [← hgb1587]; exact BKb1581.out.lt)); replace HL := hid (HL.out.trans (hb_.mono GEb1587.out)); have BKb1587 := hid hB_; clear hb_ hB_ hs_ hgb1587)
                  | ((with_reducible refine gate_s (t := 24) (p := 8) rfl ?_); refine ag_store boardT gb1587 0 (bv zL) (bv t1584) (bv t1584) BKb1587.out (by rw [show (bv t1584) = av (Value.int .i8) t1584 from rfl, av_size]; exact (by first | rfl | (simp only [List.length_set, List.length_replicate, zL_len, List.length_cons, List.length_nil, LN_t1578.out, LN_t1584.out]; done) | (simp [zL_len, LN_t1578.out, LN_t1584.out]; done))) (av_le (by first | rfl | (simp only [List.length_set, List.length_replicate, zL_len, List.length_cons, List.length_nil, LN_t1578.out, LN_t1584.out]; done) | (simp [zL_len, LN_t1578.out, LN_t1584.out]; done))) (av_one (fun _ => rfl)) (av_put (by first | rfl | (simp only [List.length_set, List.length_replicate, zL_len, List.length_cons, List.length_nil, LN_t1578.out, LN_t1584.out]; done) | (simp [zL_len, LN_t1578.out, LN_t1584.out]; done)) (by first | rfl | (simp only [List.length_set, List.length_replicate, zL_len, List.length_cons, List.length_nil, LN_t1578.out, LN_t1584.out]; done) | (simp [zL_len, LN_t1578.out, LN_t1584.out]; done))) rfl _ _ rfl rfl rfl ?_; intro w1612 ho_ hB_; replace BKb1581 := hid (BKb1581.out.off ho_ NBb1581_b1587.out); replace HL := hid (ho_.below HL.out GEb1587.out); replace BKb1587 := hid hB_; clear ho_ hB_)
                  | ((with_reducible refine gate_d (N := 52) rfl ?_); refine ag_fix (.agg (bv t1584)) (ex_load boardT gb1587 0 (bv t1584) (bv t1584) BKb1587.out (av_le (by first | rfl | (simp only [List.length_set, List.length_replicate, zL_len, List.length_cons, List.length_nil, LN_t1578.out, LN_t1584.out]; done) | (simp [zL_len, LN_t1578.out, LN_t1584.out]; done))) (av_ex (by first | rfl | (simp only [List.length_set, List.length_replicate, zL_len, List.length_cons, List.length_nil, LN_t1578.out, LN_t1584.out]; done) | (simp [zL_len, LN_t1578.out, LN_t1584.out]; done))) _ rfl rfl) rfl ?_)
                  | ((with_reducible refine gate_d (N := 53) rfl ?_); refine ag_fix (.agg (bv t1578)) (ex_load boardT gb1581 0 (bv t1578) (bv t1578) BKb1581.out (av_le (by first | rfl | (simp only [List.length_set, List.length_replicate, zL_len, List.length_cons, List.length_nil, LN_t1578.out, LN_t1584.out]; done) | (simp [zL_len, LN_t1578.out, LN_t1584.out]; done))) (av_ex (by first | rfl | (simp only [List.length_set, List.length_replicate, zL_len, List.length_cons, List.length_nil, LN_t1578.out, LN_t1584.out]; done) | (simp [zL_len, LN_t1578.out, LN_t1584.out]; done))) _ rfl rfl) rfl ?_)
                  | ((with_reducible refine gate_d (N := 54) rfl ?_); refine ag_fix (.bool true) (ex_eq .eql 24 (.agg (bv t1584)) (.agg (bv t1578)) (.bool true) (fun x_ y_ w_ => run_guard _ x_ y_ _ _ w_) (fun w_ => (eql_board t1584 t1578 (by first | rfl | (simp only [List.length_set, List.length_replicate, zL_len, List.length_cons, List.length_nil, LN_t1578.out, LN_t1584.out]; done) | (simp [zL_len, LN_t1578.out, LN_t1584.out]; done)) (by first | rfl | (simp only [List.length_set, List.length_replicate, zL_len, List.length_cons, List.length_nil, LN_t1578.out, LN_t1584.out]; done) | (simp [zL_len, LN_t1578.out, LN_t1584.out]; done)) w_).trans (by first | (rw [decide_eq_true hc1600.out]; done) | (rw [decide_eq_true hc1600.out]; rfl))) _ _ _ rfl rfl rfl) rfl ?_))
                (try simp only [Act.put, List.setIfInBounds_toArray, List.set_cons_zero, List.set_cons_succ])
                go_ret
                exact ⟨by first | rfl | (simp; done) | (simp [*]; done), HL.out⟩
              · rw [if_neg c1600] at H
                have c1600b0 : (t1584 == t1578) = false := beq_eq_false_iff_ne.mpr c1600
                have c1600b1 : (t1584 != t1578) = true := bne_iff_ne.mpr c1600
                have hc1600 := hid c1600
                clear c1600
                obtain rfl := Option.some.inj H
                clear H
                go_enter Try.func10, Try.ntmps10
                have k1613 := True.intro
                have k1615 := True.intro
                have k1619 := True.intro
                have k1621 := True.intro
                go_wp2_with (first
                  | (go_at_call 36; clear k1613; refine (i_alfillaw04_wakes.calls k true _ A1588.out).mono ?_; rintro e_ w1614 ⟨rfl, hb_⟩; replace HL := hid (HL.out.trans (hb_.mono HL.out.size)); clear hb_)
                  | (go_at_call 37; clear k1615; refine (i_forsyth_Read.calls k a0 t1578 t1579 t1580 _ A1593.out).mono ?_; rintro e_ w1616 ⟨rfl, ln_t1578, hb_⟩; have LN_t1578 := hid ln_t1578; clear ln_t1578; replace HL := hid (HL.out.trans (hb_.mono HL.out.size)); clear hb_)
                  | ((with_reducible refine gate_d (N := 3) rfl ?_); obtain ⟨gb1581, hgb1581⟩ : ∃ g_, w1616.heap.size = g_ := ⟨_, rfl⟩; refine ag_alloc boardT gb1581 hgb1581 rfl rfl ?_; intro w1617 hb_ hB_ hs_; have GEb1581 : Hid (w.heap.size ≤ gb1581) := hid (by have := HL.out.size; omega); replace HL := hid (HL.out.trans (hb_.mono GEb1581.out)); have BKb1581 := hid hB_; clear hb_ hB_ hs_ hgb1581)
                  | ((with_reducible refine gate_s (t := 24) (p := 3) rfl ?_); refine ag_store boardT gb1581 0 (bv zL) (bv t1578) (bv t1578) BKb1581.out (by rw [show (bv t1578) = av (Value.int .i8) t1578 from rfl, av_size]; exact (by first | rfl | (simp only [List.length_set, List.length_replicate, zL_len, List.length_cons, List.length_nil, LN_t1578.out]; done) | (simp [zL_len, LN_t1578.out]; done))) (av_le (by first | rfl | (simp only [List.length_set, List.length_replicate, zL_len, List.length_cons, List.length_nil, LN_t1578.out]; done) | (simp [zL_len, LN_t1578.out]; done))) (av_one (fun _ => rfl)) (av_put (by first | rfl | (simp only [List.length_set, List.length_replicate, zL_len, List.length_cons, List.length_nil, LN_t1578.out]; done) | (simp [zL_len, LN_t1578.out]; done)) (by first | rfl | (simp only [List.length_set, List.length_replicate, zL_len, List.length_cons, List.length_nil, LN_t1578.out]; done) | (simp [zL_len, LN_t1578.out]; done))) rfl _ _ rfl rfl rfl ?_; intro w1618 ho_ hB_; replace HL := hid (ho_.below HL.out GEb1581.out); replace BKb1581 := hid hB_; clear ho_ hB_)
                  | ((with_reducible refine gate_d (N := 28) rfl ?_); refine ag_fix (.agg (bv t1578)) (ex_load boardT gb1581 0 (bv t1578) (bv t1578) BKb1581.out (av_le (by first | rfl | (simp only [List.length_set, List.length_replicate, zL_len, List.length_cons, List.length_nil, LN_t1578.out]; done) | (simp [zL_len, LN_t1578.out]; done))) (av_ex (by first | rfl | (simp only [List.length_set, List.length_replicate, zL_len, List.length_cons, List.length_nil, LN_t1578.out]; done) | (simp [zL_len, LN_t1578.out]; done))) _ rfl rfl) rfl ?_)
                  | (go_at_call 39; clear k1619; refine (i_forsyth_Write.calls k t1578 (by first | rfl | (simp only [List.length_set, List.length_replicate, zL_len, List.length_cons, List.length_nil, LN_t1578.out]; done) | (simp [zL_len, LN_t1578.out]; done)) t1582 t1583 _ A1595.out).mono ?_; rintro e_ w1620 ⟨rfl, hb_⟩; replace BKb1581 := hid (BKb1581.out.below hb_ BKb1581.out.lt); replace HL := hid (HL.out.trans (hb_.mono HL.out.size)); clear hb_)
                  | (go_at_call 37; clear k1621; refine (i_forsyth_Read.calls k t1582 t1584 t1585 t1586 _ A1596.out).mono ?_; rintro e_ w1622 ⟨rfl, ln_t1584, hb_⟩; have LN_t1584 := hid ln_t1584; clear ln_t1584; replace BKb1581 := hid (BKb1581.out.below hb_ BKb1581.out.lt); replace HL := hid (HL.out.trans (hb_.mono HL.out.size)); clear hb_)
                  | ((with_reducible refine gate_d (N := 8) rfl ?_); obtain ⟨gb1587, hgb1587⟩ : ∃ g_, w1622.heap.size = g_ := ⟨_, rfl⟩; refine ag_alloc boardT gb1587 hgb1587 rfl rfl ?_; intro w1623 hb_ hB_ hs_; have GEb1587 : Hid (w.heap.size ≤ gb1587) := hid (by have := HL.out.size; omega); have NBb1581_b1587 : Hid (gb1581 ≠ gb1587) := hid (by have := BKb1581.out.lt; omega); have NBb1587_b1581 : Hid (gb1587 ≠ gb1581) := hid (by have := NBb1581_b1587.out; omega); replace BKb1581 := hid (BKb1581.out.below hb_ (by rw [← hgb1587]; exact BKb1581.out.lt)); replace HL := hid (HL.out.trans (hb_.mono GEb1587.out)); have BKb1587 := hid hB_; clear hb_ hB_ hs_ hgb1587)
                  | ((with_reducible refine gate_s (t := 24) (p := 8) rfl ?_); refine ag_store boardT gb1587 0 (bv zL) (bv t1584) (bv t1584) BKb1587.out (by rw [show (bv t1584) = av (Value.int .i8) t1584 from rfl, av_size]; exact (by first | rfl | (simp only [List.length_set, List.length_replicate, zL_len, List.length_cons, List.length_nil, LN_t1578.out, LN_t1584.out]; done) | (simp [zL_len, LN_t1578.out, LN_t1584.out]; done))) (av_le (by first | rfl | (simp only [List.length_set, List.length_replicate, zL_len, List.length_cons, List.length_nil, LN_t1578.out, LN_t1584.out]; done) | (simp [zL_len, LN_t1578.out, LN_t1584.out]; done))) (av_one (fun _ => rfl)) (av_put (by first | rfl | (simp only [List.length_set, List.length_replicate, zL_len, List.length_cons, List.length_nil, LN_t1578.out, LN_t1584.out]; done) | (simp [zL_len, LN_t1578.out, LN_t1584.out]; done)) (by first | rfl | (simp only [List.length_set, List.length_replicate, zL_len, List.length_cons, List.length_nil, LN_t1578.out, LN_t1584.out]; done) | (simp [zL_len, LN_t1578.out, LN_t1584.out]; done))) rfl _ _ rfl rfl rfl ?_; intro w1624 ho_ hB_; replace BKb1581 := hid (BKb1581.out.off ho_ NBb1581_b1587.out); replace HL := hid (ho_.below HL.out GEb1587.out); replace BKb1587 := hid hB_; clear ho_ hB_)
                  | ((with_reducible refine gate_d (N := 52) rfl ?_); refine ag_fix (.agg (bv t1584)) (ex_load boardT gb1587 0 (bv t1584) (bv t1584) BKb1587.out (av_le (by first | rfl | (simp only [List.length_set, List.length_replicate, zL_len, List.length_cons, List.length_nil, LN_t1578.out, LN_t1584.out]; done) | (simp [zL_len, LN_t1578.out, LN_t1584.out]; done))) (av_ex (by first | rfl | (simp only [List.length_set, List.length_replicate, zL_len, List.length_cons, List.length_nil, LN_t1578.out, LN_t1584.out]; done) | (simp [zL_len, LN_t1578.out, LN_t1584.out]; done))) _ rfl rfl) rfl ?_)
                  | ((with_reducible refine gate_d (N := 53) rfl ?_); refine ag_fix (.agg (bv t1578)) (ex_load boardT gb1581 0 (bv t1578) (bv t1578) BKb1581.out (av_le (by first | rfl | (simp only [List.length_set, List.length_replicate, zL_len, List.length_cons, List.length_nil, LN_t1578.out, LN_t1584.out]; done) | (simp [zL_len, LN_t1578.out, LN_t1584.out]; done))) (av_ex (by first | rfl | (simp only [List.length_set, List.length_replicate, zL_len, List.length_cons, List.length_nil, LN_t1578.out, LN_t1584.out]; done) | (simp [zL_len, LN_t1578.out, LN_t1584.out]; done))) _ rfl rfl) rfl ?_)
                  | ((with_reducible refine gate_d (N := 54) rfl ?_); refine ag_fix (.bool false) (ex_eq .eql 24 (.agg (bv t1584)) (.agg (bv t1578)) (.bool false) (fun x_ y_ w_ => run_guard _ x_ y_ _ _ w_) (fun w_ => (eql_board t1584 t1578 (by first | rfl | (simp only [List.length_set, List.length_replicate, zL_len, List.length_cons, List.length_nil, LN_t1578.out, LN_t1584.out]; done) | (simp [zL_len, LN_t1578.out, LN_t1584.out]; done)) (by first | rfl | (simp only [List.length_set, List.length_replicate, zL_len, List.length_cons, List.length_nil, LN_t1578.out, LN_t1584.out]; done) | (simp [zL_len, LN_t1578.out, LN_t1584.out]; done)) w_).trans (by first | (rw [decide_eq_false hc1600.out]; done) | (rw [decide_eq_false hc1600.out]; rfl))) _ _ _ rfl rfl rfl) rfl ?_))
                (try simp only [Act.put, List.setIfInBounds_toArray, List.set_cons_zero, List.set_cons_succ])
                go_ret
                exact ⟨by first | rfl | (simp; done) | (simp [*]; done), HL.out⟩
            · rw [if_neg c1599] at H
              have c1599b0 : (t1586 == 0) = false := beq_eq_false_iff_ne.mpr c1599
              have c1599b1 : (t1586 != 0) = true := bne_iff_ne.mpr c1599
              have hc1599 := hid c1599
              clear c1599
              obtain rfl := Option.some.inj H
              clear H
              go_enter Try.func10, Try.ntmps10
              have k1625 := True.intro
              have k1627 := True.intro
              have k1631 := True.intro
              have k1633 := True.intro
              go_wp2_with (first
                | (go_at_call 36; clear k1625; refine (i_alfillaw04_wakes.calls k true _ A1588.out).mono ?_; rintro e_ w1626 ⟨rfl, hb_⟩; replace HL := hid (HL.out.trans (hb_.mono HL.out.size)); clear hb_)
                | (go_at_call 37; clear k1627; refine (i_forsyth_Read.calls k a0 t1578 t1579 t1580 _ A1593.out).mono ?_; rintro e_ w1628 ⟨rfl, ln_t1578, hb_⟩; have LN_t1578 := hid ln_t1578; clear ln_t1578; replace HL := hid (HL.out.trans (hb_.mono HL.out.size)); clear hb_)
                | ((with_reducible refine gate_d (N := 3) rfl ?_); obtain ⟨gb1581, hgb1581⟩ : ∃ g_, w1628.heap.size = g_ := ⟨_, rfl⟩; refine ag_alloc boardT gb1581 hgb1581 rfl rfl ?_; intro w1629 hb_ hB_ hs_; have GEb1581 : Hid (w.heap.size ≤ gb1581) := hid (by have := HL.out.size; omega); replace HL := hid (HL.out.trans (hb_.mono GEb1581.out)); have BKb1581 := hid hB_; clear hb_ hB_ hs_ hgb1581)
                | ((with_reducible refine gate_s (t := 24) (p := 3) rfl ?_); refine ag_store boardT gb1581 0 (bv zL) (bv t1578) (bv t1578) BKb1581.out (by rw [show (bv t1578) = av (Value.int .i8) t1578 from rfl, av_size]; exact (by first | rfl | (simp only [List.length_set, List.length_replicate, zL_len, List.length_cons, List.length_nil, LN_t1578.out]; done) | (simp [zL_len, LN_t1578.out]; done))) (av_le (by first | rfl | (simp only [List.length_set, List.length_replicate, zL_len, List.length_cons, List.length_nil, LN_t1578.out]; done) | (simp [zL_len, LN_t1578.out]; done))) (av_one (fun _ => rfl)) (av_put (by first | rfl | (simp only [List.length_set, List.length_replicate, zL_len, List.length_cons, List.length_nil, LN_t1578.out]; done) | (simp [zL_len, LN_t1578.out]; done)) (by first | rfl | (simp only [List.length_set, List.length_replicate, zL_len, List.length_cons, List.length_nil, LN_t1578.out]; done) | (simp [zL_len, LN_t1578.out]; done))) rfl _ _ rfl rfl rfl ?_; intro w1630 ho_ hB_; replace HL := hid (ho_.below HL.out GEb1581.out); replace BKb1581 := hid hB_; clear ho_ hB_)
                | ((with_reducible refine gate_d (N := 28) rfl ?_); refine ag_fix (.agg (bv t1578)) (ex_load boardT gb1581 0 (bv t1578) (bv t1578) BKb1581.out (av_le (by first | rfl | (simp only [List.length_set, List.length_replicate, zL_len, List.length_cons, List.length_nil, LN_t1578.out]; done) | (simp [zL_len, LN_t1578.out]; done))) (av_ex (by first | rfl | (simp only [List.length_set, List.length_replicate, zL_len, List.length_cons, List.length_nil, LN_t1578.out]; done) | (simp [zL_len, LN_t1578.out]; done))) _ rfl rfl) rfl ?_)
                | (go_at_call 39; clear k1631; refine (i_forsyth_Write.calls k t1578 (by first | rfl | (simp only [List.length_set, List.length_replicate, zL_len, List.length_cons, List.length_nil, LN_t1578.out]; done) | (simp [zL_len, LN_t1578.out]; done)) t1582 t1583 _ A1595.out).mono ?_; rintro e_ w1632 ⟨rfl, hb_⟩; replace BKb1581 := hid (BKb1581.out.below hb_ BKb1581.out.lt); replace HL := hid (HL.out.trans (hb_.mono HL.out.size)); clear hb_)
                | (go_at_call 37; clear k1633; refine (i_forsyth_Read.calls k t1582 t1584 t1585 t1586 _ A1596.out).mono ?_; rintro e_ w1634 ⟨rfl, ln_t1584, hb_⟩; have LN_t1584 := hid ln_t1584; clear ln_t1584; replace BKb1581 := hid (BKb1581.out.below hb_ BKb1581.out.lt); replace HL := hid (HL.out.trans (hb_.mono HL.out.size)); clear hb_)
                | ((with_reducible refine gate_d (N := 8) rfl ?_); obtain ⟨gb1587, hgb1587⟩ : ∃ g_, w1634.heap.size = g_ := ⟨_, rfl⟩; refine ag_alloc boardT gb1587 hgb1587 rfl rfl ?_; intro w1635 hb_ hB_ hs_; have GEb1587 : Hid (w.heap.size ≤ gb1587) := hid (by have := HL.out.size; omega); have NBb1581_b1587 : Hid (gb1581 ≠ gb1587) := hid (by have := BKb1581.out.lt; omega); have NBb1587_b1581 : Hid (gb1587 ≠ gb1581) := hid (by have := NBb1581_b1587.out; omega); replace BKb1581 := hid (BKb1581.out.below hb_ (by rw [← hgb1587]; exact BKb1581.out.lt)); replace HL := hid (HL.out.trans (hb_.mono GEb1587.out)); have BKb1587 := hid hB_; clear hb_ hB_ hs_ hgb1587)
                | ((with_reducible refine gate_s (t := 24) (p := 8) rfl ?_); refine ag_store boardT gb1587 0 (bv zL) (bv t1584) (bv t1584) BKb1587.out (by rw [show (bv t1584) = av (Value.int .i8) t1584 from rfl, av_size]; exact (by first | rfl | (simp only [List.length_set, List.length_replicate, zL_len, List.length_cons, List.length_nil, LN_t1578.out, LN_t1584.out]; done) | (simp [zL_len, LN_t1578.out, LN_t1584.out]; done))) (av_le (by first | rfl | (simp only [List.length_set, List.length_replicate, zL_len, List.length_cons, List.length_nil, LN_t1578.out, LN_t1584.out]; done) | (simp [zL_len, LN_t1578.out, LN_t1584.out]; done))) (av_one (fun _ => rfl)) (av_put (by first | rfl | (simp only [List.length_set, List.length_replicate, zL_len, List.length_cons, List.length_nil, LN_t1578.out, LN_t1584.out]; done) | (simp [zL_len, LN_t1578.out, LN_t1584.out]; done)) (by first | rfl | (simp only [List.length_set, List.length_replicate, zL_len, List.length_cons, List.length_nil, LN_t1578.out, LN_t1584.out]; done) | (simp [zL_len, LN_t1578.out, LN_t1584.out]; done))) rfl _ _ rfl rfl rfl ?_; intro w1636 ho_ hB_; replace BKb1581 := hid (BKb1581.out.off ho_ NBb1581_b1587.out); replace HL := hid (ho_.below HL.out GEb1587.out); replace BKb1587 := hid hB_; clear ho_ hB_))
              (try simp only [Act.put, List.setIfInBounds_toArray, List.set_cons_zero, List.set_cons_succ])
              go_ret
              exact ⟨by first | rfl | (simp; done) | (simp [*]; done), HL.out⟩
          · rw [if_neg c1598] at H
            have c1598b0 : decide ((t1582.size : Int) ≤ (a0.size : Int)) = false := decide_eq_false c1598
            have c1598b1 : decide (t1582.size ≤ a0.size) = false := decide_eq_false (fun h => c1598 (Int.ofNat_le.mpr h))
            have hc1598 := hid c1598
            clear c1598
            obtain rfl := Option.some.inj H
            clear H
            go_enter Try.func10, Try.ntmps10
            have k1637 := True.intro
            have k1639 := True.intro
            have k1643 := True.intro
            have k1645 := True.intro
            go_wp2_with (first
              | (go_at_call 36; clear k1637; refine (i_alfillaw04_wakes.calls k true _ A1588.out).mono ?_; rintro e_ w1638 ⟨rfl, hb_⟩; replace HL := hid (HL.out.trans (hb_.mono HL.out.size)); clear hb_)
              | (go_at_call 37; clear k1639; refine (i_forsyth_Read.calls k a0 t1578 t1579 t1580 _ A1593.out).mono ?_; rintro e_ w1640 ⟨rfl, ln_t1578, hb_⟩; have LN_t1578 := hid ln_t1578; clear ln_t1578; replace HL := hid (HL.out.trans (hb_.mono HL.out.size)); clear hb_)
              | ((with_reducible refine gate_d (N := 3) rfl ?_); obtain ⟨gb1581, hgb1581⟩ : ∃ g_, w1640.heap.size = g_ := ⟨_, rfl⟩; refine ag_alloc boardT gb1581 hgb1581 rfl rfl ?_; intro w1641 hb_ hB_ hs_; have GEb1581 : Hid (w.heap.size ≤ gb1581) := hid (by have := HL.out.size; omega); replace HL := hid (HL.out.trans (hb_.mono GEb1581.out)); have BKb1581 := hid hB_; clear hb_ hB_ hs_ hgb1581)
              | ((with_reducible refine gate_s (t := 24) (p := 3) rfl ?_); refine ag_store boardT gb1581 0 (bv zL) (bv t1578) (bv t1578) BKb1581.out (by rw [show (bv t1578) = av (Value.int .i8) t1578 from rfl, av_size]; exact (by first | rfl | (simp only [List.length_set, List.length_replicate, zL_len, List.length_cons, List.length_nil, LN_t1578.out]; done) | (simp [zL_len, LN_t1578.out]; done))) (av_le (by first | rfl | (simp only [List.length_set, List.length_replicate, zL_len, List.length_cons, List.length_nil, LN_t1578.out]; done) | (simp [zL_len, LN_t1578.out]; done))) (av_one (fun _ => rfl)) (av_put (by first | rfl | (simp only [List.length_set, List.length_replicate, zL_len, List.length_cons, List.length_nil, LN_t1578.out]; done) | (simp [zL_len, LN_t1578.out]; done)) (by first | rfl | (simp only [List.length_set, List.length_replicate, zL_len, List.length_cons, List.length_nil, LN_t1578.out]; done) | (simp [zL_len, LN_t1578.out]; done))) rfl _ _ rfl rfl rfl ?_; intro w1642 ho_ hB_; replace HL := hid (ho_.below HL.out GEb1581.out); replace BKb1581 := hid hB_; clear ho_ hB_)
              | ((with_reducible refine gate_d (N := 28) rfl ?_); refine ag_fix (.agg (bv t1578)) (ex_load boardT gb1581 0 (bv t1578) (bv t1578) BKb1581.out (av_le (by first | rfl | (simp only [List.length_set, List.length_replicate, zL_len, List.length_cons, List.length_nil, LN_t1578.out]; done) | (simp [zL_len, LN_t1578.out]; done))) (av_ex (by first | rfl | (simp only [List.length_set, List.length_replicate, zL_len, List.length_cons, List.length_nil, LN_t1578.out]; done) | (simp [zL_len, LN_t1578.out]; done))) _ rfl rfl) rfl ?_)
              | (go_at_call 39; clear k1643; refine (i_forsyth_Write.calls k t1578 (by first | rfl | (simp only [List.length_set, List.length_replicate, zL_len, List.length_cons, List.length_nil, LN_t1578.out]; done) | (simp [zL_len, LN_t1578.out]; done)) t1582 t1583 _ A1595.out).mono ?_; rintro e_ w1644 ⟨rfl, hb_⟩; replace BKb1581 := hid (BKb1581.out.below hb_ BKb1581.out.lt); replace HL := hid (HL.out.trans (hb_.mono HL.out.size)); clear hb_)
              | (go_at_call 37; clear k1645; refine (i_forsyth_Read.calls k t1582 t1584 t1585 t1586 _ A1596.out).mono ?_; rintro e_ w1646 ⟨rfl, ln_t1584, hb_⟩; have LN_t1584 := hid ln_t1584; clear ln_t1584; replace BKb1581 := hid (BKb1581.out.below hb_ BKb1581.out.lt); replace HL := hid (HL.out.trans (hb_.mono HL.out.size)); clear hb_)
              | ((with_reducible refine gate_d (N := 8) rfl ?_); obtain ⟨gb1587, hgb1587⟩ : ∃ g_, w1646.heap.size = g_ := ⟨_, rfl⟩; refine ag_alloc boardT gb1587 hgb1587 rfl rfl ?_; intro w1647 hb_ hB_ hs_; have GEb1587 : Hid (w.heap.size ≤ gb1587) := hid (by have := HL.out.size; omega); have NBb1581_b1587 : Hid (gb1581 ≠ gb1587) := hid (by have := BKb1581.out.lt; omega); have NBb1587_b1581 : Hid (gb1587 ≠ gb1581) := hid (by have := NBb1581_b1587.out; omega); replace BKb1581 := hid (BKb1581.out.below hb_ (by rw [← hgb1587]; exact BKb1581.out.lt)); replace HL := hid (HL.out.trans (hb_.mono GEb1587.out)); have BKb1587 := hid hB_; clear hb_ hB_ hs_ hgb1587)
              | ((with_reducible refine gate_s (t := 24) (p := 8) rfl ?_); refine ag_store boardT gb1587 0 (bv zL) (bv t1584) (bv t1584) BKb1587.out (by rw [show (bv t1584) = av (Value.int .i8) t1584 from rfl, av_size]; exact (by first | rfl | (simp only [List.length_set, List.length_replicate, zL_len, List.length_cons, List.length_nil, LN_t1578.out, LN_t1584.out]; done) | (simp [zL_len, LN_t1578.out, LN_t1584.out]; done))) (av_le (by first | rfl | (simp only [List.length_set, List.length_replicate, zL_len, List.length_cons, List.length_nil, LN_t1578.out, LN_t1584.out]; done) | (simp [zL_len, LN_t1578.out, LN_t1584.out]; done))) (av_one (fun _ => rfl)) (av_put (by first | rfl | (simp only [List.length_set, List.length_replicate, zL_len, List.length_cons, List.length_nil, LN_t1578.out, LN_t1584.out]; done) | (simp [zL_len, LN_t1578.out, LN_t1584.out]; done)) (by first | rfl | (simp only [List.length_set, List.length_replicate, zL_len, List.length_cons, List.length_nil, LN_t1578.out, LN_t1584.out]; done) | (simp [zL_len, LN_t1578.out, LN_t1584.out]; done))) rfl _ _ rfl rfl rfl ?_; intro w1648 ho_ hB_; replace BKb1581 := hid (BKb1581.out.off ho_ NBb1581_b1587.out); replace HL := hid (ho_.below HL.out GEb1587.out); replace BKb1587 := hid hB_; clear ho_ hB_))
            (try simp only [Act.put, List.setIfInBounds_toArray, List.set_cons_zero, List.set_cons_succ])
            go_ret
            exact ⟨by first | rfl | (simp; done) | (simp [*]; done), HL.out⟩
        · rw [if_neg c1597] at H
          have c1597b0 : (t1583 == 0) = false := beq_eq_false_iff_ne.mpr c1597
          have c1597b1 : (t1583 != 0) = true := bne_iff_ne.mpr c1597
          have hc1597 := hid c1597
          clear c1597
          obtain rfl := Option.some.inj H
          clear H
          go_enter Try.func10, Try.ntmps10
          have k1649 := True.intro
          have k1651 := True.intro
          have k1655 := True.intro
          have k1657 := True.intro
          go_wp2_with (first
            | (go_at_call 36; clear k1649; refine (i_alfillaw04_wakes.calls k true _ A1588.out).mono ?_; rintro e_ w1650 ⟨rfl, hb_⟩; replace HL := hid (HL.out.trans (hb_.mono HL.out.size)); clear hb_)
            | (go_at_call 37; clear k1651; refine (i_forsyth_Read.calls k a0 t1578 t1579 t1580 _ A1593.out).mono ?_; rintro e_ w1652 ⟨rfl, ln_t1578, hb_⟩; have LN_t1578 := hid ln_t1578; clear ln_t1578; replace HL := hid (HL.out.trans (hb_.mono HL.out.size)); clear hb_)
            | ((with_reducible refine gate_d (N := 3) rfl ?_); obtain ⟨gb1581, hgb1581⟩ : ∃ g_, w1652.heap.size = g_ := ⟨_, rfl⟩; refine ag_alloc boardT gb1581 hgb1581 rfl rfl ?_; intro w1653 hb_ hB_ hs_; have GEb1581 : Hid (w.heap.size ≤ gb1581) := hid (by have := HL.out.size; omega); replace HL := hid (HL.out.trans (hb_.mono GEb1581.out)); have BKb1581 := hid hB_; clear hb_ hB_ hs_ hgb1581)
            | ((with_reducible refine gate_s (t := 24) (p := 3) rfl ?_); refine ag_store boardT gb1581 0 (bv zL) (bv t1578) (bv t1578) BKb1581.out (by rw [show (bv t1578) = av (Value.int .i8) t1578 from rfl, av_size]; exact (by first | rfl | (simp only [List.length_set, List.length_replicate, zL_len, List.length_cons, List.length_nil, LN_t1578.out]; done) | (simp [zL_len, LN_t1578.out]; done))) (av_le (by first | rfl | (simp only [List.length_set, List.length_replicate, zL_len, List.length_cons, List.length_nil, LN_t1578.out]; done) | (simp [zL_len, LN_t1578.out]; done))) (av_one (fun _ => rfl)) (av_put (by first | rfl | (simp only [List.length_set, List.length_replicate, zL_len, List.length_cons, List.length_nil, LN_t1578.out]; done) | (simp [zL_len, LN_t1578.out]; done)) (by first | rfl | (simp only [List.length_set, List.length_replicate, zL_len, List.length_cons, List.length_nil, LN_t1578.out]; done) | (simp [zL_len, LN_t1578.out]; done))) rfl _ _ rfl rfl rfl ?_; intro w1654 ho_ hB_; replace HL := hid (ho_.below HL.out GEb1581.out); replace BKb1581 := hid hB_; clear ho_ hB_)
            | ((with_reducible refine gate_d (N := 28) rfl ?_); refine ag_fix (.agg (bv t1578)) (ex_load boardT gb1581 0 (bv t1578) (bv t1578) BKb1581.out (av_le (by first | rfl | (simp only [List.length_set, List.length_replicate, zL_len, List.length_cons, List.length_nil, LN_t1578.out]; done) | (simp [zL_len, LN_t1578.out]; done))) (av_ex (by first | rfl | (simp only [List.length_set, List.length_replicate, zL_len, List.length_cons, List.length_nil, LN_t1578.out]; done) | (simp [zL_len, LN_t1578.out]; done))) _ rfl rfl) rfl ?_)
            | (go_at_call 39; clear k1655; refine (i_forsyth_Write.calls k t1578 (by first | rfl | (simp only [List.length_set, List.length_replicate, zL_len, List.length_cons, List.length_nil, LN_t1578.out]; done) | (simp [zL_len, LN_t1578.out]; done)) t1582 t1583 _ A1595.out).mono ?_; rintro e_ w1656 ⟨rfl, hb_⟩; replace BKb1581 := hid (BKb1581.out.below hb_ BKb1581.out.lt); replace HL := hid (HL.out.trans (hb_.mono HL.out.size)); clear hb_)
            | (go_at_call 37; clear k1657; refine (i_forsyth_Read.calls k t1582 t1584 t1585 t1586 _ A1596.out).mono ?_; rintro e_ w1658 ⟨rfl, ln_t1584, hb_⟩; have LN_t1584 := hid ln_t1584; clear ln_t1584; replace BKb1581 := hid (BKb1581.out.below hb_ BKb1581.out.lt); replace HL := hid (HL.out.trans (hb_.mono HL.out.size)); clear hb_)
            | ((with_reducible refine gate_d (N := 8) rfl ?_); obtain ⟨gb1587, hgb1587⟩ : ∃ g_, w1658.heap.size = g_ := ⟨_, rfl⟩; refine ag_alloc boardT gb1587 hgb1587 rfl rfl ?_; intro w1659 hb_ hB_ hs_; have GEb1587 : Hid (w.heap.size ≤ gb1587) := hid (by have := HL.out.size; omega); have NBb1581_b1587 : Hid (gb1581 ≠ gb1587) := hid (by have := BKb1581.out.lt; omega); have NBb1587_b1581 : Hid (gb1587 ≠ gb1581) := hid (by have := NBb1581_b1587.out; omega); replace BKb1581 := hid (BKb1581.out.below hb_ (by rw [← hgb1587]; exact BKb1581.out.lt)); replace HL := hid (HL.out.trans (hb_.mono GEb1587.out)); have BKb1587 := hid hB_; clear hb_ hB_ hs_ hgb1587)
            | ((with_reducible refine gate_s (t := 24) (p := 8) rfl ?_); refine ag_store boardT gb1587 0 (bv zL) (bv t1584) (bv t1584) BKb1587.out (by rw [show (bv t1584) = av (Value.int .i8) t1584 from rfl, av_size]; exact (by first | rfl | (simp only [List.length_set, List.length_replicate, zL_len, List.length_cons, List.length_nil, LN_t1578.out, LN_t1584.out]; done) | (simp [zL_len, LN_t1578.out, LN_t1584.out]; done))) (av_le (by first | rfl | (simp only [List.length_set, List.length_replicate, zL_len, List.length_cons, List.length_nil, LN_t1578.out, LN_t1584.out]; done) | (simp [zL_len, LN_t1578.out, LN_t1584.out]; done))) (av_one (fun _ => rfl)) (av_put (by first | rfl | (simp only [List.length_set, List.length_replicate, zL_len, List.length_cons, List.length_nil, LN_t1578.out, LN_t1584.out]; done) | (simp [zL_len, LN_t1578.out, LN_t1584.out]; done)) (by first | rfl | (simp only [List.length_set, List.length_replicate, zL_len, List.length_cons, List.length_nil, LN_t1578.out, LN_t1584.out]; done) | (simp [zL_len, LN_t1578.out, LN_t1584.out]; done))) rfl _ _ rfl rfl rfl ?_; intro w1660 ho_ hB_; replace BKb1581 := hid (BKb1581.out.off ho_ NBb1581_b1587.out); replace HL := hid (ho_.below HL.out GEb1587.out); replace BKb1587 := hid hB_; clear ho_ hB_))
          (try simp only [Act.put, List.setIfInBounds_toArray, List.set_cons_zero, List.set_cons_succ])
          go_ret
          exact ⟨by first | rfl | (simp; done) | (simp [*]; done), HL.out⟩
      · rw [if_neg c1594] at H
        have c1594b0 : (t1580 == 0) = false := beq_eq_false_iff_ne.mpr c1594
        have c1594b1 : (t1580 != 0) = true := bne_iff_ne.mpr c1594
        have hc1594 := hid c1594
        clear c1594
        by_cases c1661 : t1578 = zL
        · rw [if_pos c1661] at H
          have c1661b0 : (t1578 == zL) = true := beq_iff_eq.mpr c1661
          have c1661b1 : (t1578 != zL) = false := bne_eq_false_iff_eq.mpr c1661
          have hc1661 := hid c1661
          clear c1661
          obtain rfl := Option.some.inj H
          clear H
          go_enter Try.func10, Try.ntmps10
          have k1662 := True.intro
          have k1664 := True.intro
          go_wp2_with (first
            | (go_at_call 36; clear k1662; refine (i_alfillaw04_wakes.calls k true _ A1588.out).mono ?_; rintro e_ w1663 ⟨rfl, hb_⟩; replace HL := hid (HL.out.trans (hb_.mono HL.out.size)); clear hb_)
            | (go_at_call 37; clear k1664; refine (i_forsyth_Read.calls k a0 t1578 t1579 t1580 _ A1593.out).mono ?_; rintro e_ w1665 ⟨rfl, ln_t1578, hb_⟩; have LN_t1578 := hid ln_t1578; clear ln_t1578; replace HL := hid (HL.out.trans (hb_.mono HL.out.size)); clear hb_)
            | ((with_reducible refine gate_d (N := 3) rfl ?_); obtain ⟨gb1581, hgb1581⟩ : ∃ g_, w1665.heap.size = g_ := ⟨_, rfl⟩; refine ag_alloc boardT gb1581 hgb1581 rfl rfl ?_; intro w1666 hb_ hB_ hs_; have GEb1581 : Hid (w.heap.size ≤ gb1581) := hid (by have := HL.out.size; omega); replace HL := hid (HL.out.trans (hb_.mono GEb1581.out)); have BKb1581 := hid hB_; clear hb_ hB_ hs_ hgb1581)
            | ((with_reducible refine gate_s (t := 24) (p := 3) rfl ?_); refine ag_store boardT gb1581 0 (bv zL) (bv t1578) (bv t1578) BKb1581.out (by rw [show (bv t1578) = av (Value.int .i8) t1578 from rfl, av_size]; exact (by first | rfl | (simp only [List.length_set, List.length_replicate, zL_len, List.length_cons, List.length_nil, LN_t1578.out]; done) | (simp [zL_len, LN_t1578.out]; done))) (av_le (by first | rfl | (simp only [List.length_set, List.length_replicate, zL_len, List.length_cons, List.length_nil, LN_t1578.out]; done) | (simp [zL_len, LN_t1578.out]; done))) (av_one (fun _ => rfl)) (av_put (by first | rfl | (simp only [List.length_set, List.length_replicate, zL_len, List.length_cons, List.length_nil, LN_t1578.out]; done) | (simp [zL_len, LN_t1578.out]; done)) (by first | rfl | (simp only [List.length_set, List.length_replicate, zL_len, List.length_cons, List.length_nil, LN_t1578.out]; done) | (simp [zL_len, LN_t1578.out]; done))) rfl _ _ rfl rfl rfl ?_; intro w1667 ho_ hB_; replace HL := hid (ho_.below HL.out GEb1581.out); replace BKb1581 := hid hB_; clear ho_ hB_)
            | ((with_reducible refine gate_d (N := 24) rfl ?_); refine ag_fix (.agg (bv t1578)) (ex_load boardT gb1581 0 (bv t1578) (bv t1578) BKb1581.out (av_le (by first | rfl | (simp only [List.length_set, List.length_replicate, zL_len, List.length_cons, List.length_nil, LN_t1578.out]; done) | (simp [zL_len, LN_t1578.out]; done))) (av_ex (by first | rfl | (simp only [List.length_set, List.length_replicate, zL_len, List.length_cons, List.length_nil, LN_t1578.out]; done) | (simp [zL_len, LN_t1578.out]; done))) _ rfl rfl) rfl ?_)
            | ((with_reducible refine gate_d (N := 25) rfl ?_); refine ag_build (.agg (bv zL)) _ rfl rfl ?_ ?_; (intro ww_; kernel_rfl))
            | ((with_reducible refine gate_d (N := 26) rfl ?_); refine ag_fix (.bool true) (ex_eq .eql 24 (.agg (bv t1578)) (.agg (bv zL)) (.bool true) (fun x_ y_ w_ => run_guard _ x_ y_ _ _ w_) (fun w_ => (eql_board t1578 zL (by first | rfl | (simp only [List.length_set, List.length_replicate, zL_len, List.length_cons, List.length_nil, LN_t1578.out]; done) | (simp [zL_len, LN_t1578.out]; done)) (by first | rfl | (simp only [List.length_set, List.length_replicate, zL_len, List.length_cons, List.length_nil, LN_t1578.out]; done) | (simp [zL_len, LN_t1578.out]; done)) w_).trans (by first | (rw [decide_eq_true hc1661.out]; done) | (rw [decide_eq_true hc1661.out]; rfl))) _ _ _ rfl rfl rfl) rfl ?_))
          (try simp only [Act.put, List.setIfInBounds_toArray, List.set_cons_zero, List.set_cons_succ])
          go_ret
          exact ⟨by first | rfl | (simp; done) | (simp [*]; done), HL.out⟩
        · rw [if_neg c1661] at H
          have c1661b0 : (t1578 == zL) = false := beq_eq_false_iff_ne.mpr c1661
          have c1661b1 : (t1578 != zL) = true := bne_iff_ne.mpr c1661
          have hc1661 := hid c1661
          clear c1661
          obtain rfl := Option.some.inj H
          clear H
          go_enter Try.func10, Try.ntmps10
          have k1668 := True.intro
          have k1670 := True.intro
          go_wp2_with (first
            | (go_at_call 36; clear k1668; refine (i_alfillaw04_wakes.calls k true _ A1588.out).mono ?_; rintro e_ w1669 ⟨rfl, hb_⟩; replace HL := hid (HL.out.trans (hb_.mono HL.out.size)); clear hb_)
            | (go_at_call 37; clear k1670; refine (i_forsyth_Read.calls k a0 t1578 t1579 t1580 _ A1593.out).mono ?_; rintro e_ w1671 ⟨rfl, ln_t1578, hb_⟩; have LN_t1578 := hid ln_t1578; clear ln_t1578; replace HL := hid (HL.out.trans (hb_.mono HL.out.size)); clear hb_)
            | ((with_reducible refine gate_d (N := 3) rfl ?_); obtain ⟨gb1581, hgb1581⟩ : ∃ g_, w1671.heap.size = g_ := ⟨_, rfl⟩; refine ag_alloc boardT gb1581 hgb1581 rfl rfl ?_; intro w1672 hb_ hB_ hs_; have GEb1581 : Hid (w.heap.size ≤ gb1581) := hid (by have := HL.out.size; omega); replace HL := hid (HL.out.trans (hb_.mono GEb1581.out)); have BKb1581 := hid hB_; clear hb_ hB_ hs_ hgb1581)
            | ((with_reducible refine gate_s (t := 24) (p := 3) rfl ?_); refine ag_store boardT gb1581 0 (bv zL) (bv t1578) (bv t1578) BKb1581.out (by rw [show (bv t1578) = av (Value.int .i8) t1578 from rfl, av_size]; exact (by first | rfl | (simp only [List.length_set, List.length_replicate, zL_len, List.length_cons, List.length_nil, LN_t1578.out]; done) | (simp [zL_len, LN_t1578.out]; done))) (av_le (by first | rfl | (simp only [List.length_set, List.length_replicate, zL_len, List.length_cons, List.length_nil, LN_t1578.out]; done) | (simp [zL_len, LN_t1578.out]; done))) (av_one (fun _ => rfl)) (av_put (by first | rfl | (simp only [List.length_set, List.length_replicate, zL_len, List.length_cons, List.length_nil, LN_t1578.out]; done) | (simp [zL_len, LN_t1578.out]; done)) (by first | rfl | (simp only [List.length_set, List.length_replicate, zL_len, List.length_cons, List.length_nil, LN_t1578.out]; done) | (simp [zL_len, LN_t1578.out]; done))) rfl _ _ rfl rfl rfl ?_; intro w1673 ho_ hB_; replace HL := hid (ho_.below HL.out GEb1581.out); replace BKb1581 := hid hB_; clear ho_ hB_)
            | ((with_reducible refine gate_d (N := 24) rfl ?_); refine ag_fix (.agg (bv t1578)) (ex_load boardT gb1581 0 (bv t1578) (bv t1578) BKb1581.out (av_le (by first | rfl | (simp only [List.length_set, List.length_replicate, zL_len, List.length_cons, List.length_nil, LN_t1578.out]; done) | (simp [zL_len, LN_t1578.out]; done))) (av_ex (by first | rfl | (simp only [List.length_set, List.length_replicate, zL_len, List.length_cons, List.length_nil, LN_t1578.out]; done) | (simp [zL_len, LN_t1578.out]; done))) _ rfl rfl) rfl ?_)
            | ((with_reducible refine gate_d (N := 25) rfl ?_); refine ag_build (.agg (bv zL)) _ rfl rfl ?_ ?_; (intro ww_; kernel_rfl))
            | ((with_reducible refine gate_d (N := 26) rfl ?_); refine ag_fix (.bool false) (ex_eq .eql 24 (.agg (bv t1578)) (.agg (bv zL)) (.bool false) (fun x_ y_ w_ => run_guard _ x_ y_ _ _ w_) (fun w_ => (eql_board t1578 zL (by first | rfl | (simp only [List.length_set, List.length_replicate, zL_len, List.length_cons, List.length_nil, LN_t1578.out]; done) | (simp [zL_len, LN_t1578.out]; done)) (by first | rfl | (simp only [List.length_set, List.length_replicate, zL_len, List.length_cons, List.length_nil, LN_t1578.out]; done) | (simp [zL_len, LN_t1578.out]; done)) w_).trans (by first | (rw [decide_eq_false hc1661.out]; done) | (rw [decide_eq_false hc1661.out]; rfl))) _ _ _ rfl rfl rfl) rfl ?_))
          (try simp only [Act.put, List.setIfInBounds_toArray, List.set_cons_zero, List.set_cons_succ])
          go_ret
          exact ⟨by first | rfl | (simp; done) | (simp [*]; done), HL.out⟩
  | false =>
    rw [if_neg (show ¬ (false = true) by decide)] at H
    obtain rfl := Option.some.inj H
    clear H
    go_enter Try.func10, Try.ntmps10
    have k1674 := True.intro
    go_wp2_with (first
      | (go_at_call 36; clear k1674; refine (i_alfillaw04_wakes.calls k false _ A1588.out).mono ?_; rintro e_ w1675 ⟨rfl, hb_⟩; replace HL := hid (HL.out.trans (hb_.mono HL.out.size)); clear hb_))
    (try simp only [Act.put, List.setIfInBounds_toArray, List.set_cons_zero, List.set_cons_succ])
    go_ret
    exact ⟨by first | rfl | (simp; done) | (simp [*]; done), HL.out⟩
end Go.Proofs.Ytpgdcpkggmkooaa
