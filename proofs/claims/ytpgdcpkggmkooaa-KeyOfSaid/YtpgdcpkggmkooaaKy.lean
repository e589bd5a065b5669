/- The walks of package key and of its reference's Mix; the first position. -/
import Derived.Test.YtpgdcpkggmkooaaBd
import Derived.Test.YtpgdcpkggmkooaaKp
namespace Go.Proofs.Ytpgdcpkggmkooaa
open Go.RowKit
def mixR (n : Int) : Int := mix3 (mix2 (mix1 (w64 (w64 (n + 1) * 11400714819323198485))))
set_option maxHeartbeats 1000000 in
theorem kyMix (n : Int) (w : World) : Calls Try.prog 46 #[.int .u64 n] w fun e w' => e = .returned (.int .u64 (mixZ n)) ∧ w = w' := by
  go_enter Try.func46, Try.ntmps46
  go_wp2
  go_ret
  exact ⟨rv_int rfl, rfl⟩
set_option maxHeartbeats 1000000 in
theorem rMix (n : Int) (w : World) : Calls Try.prog 49 #[.int .u64 n] w fun e w' => e = .returned (.int .u64 (mixZ n)) ∧ w = w' := by
  have H : Hid (mixR n = mixZ n) := hid (by unfold mixR; rw [mix_in]; rfl)
  have q1 := u64_quo 1073741824 (by omega)
  have q2 := u64_quo 134217728 (by omega)
  have q3 := u64_quo 2147483648 (by omega)
  go_enter Try.func49, Try.ntmps49
  go_wp2
  go_ret
  exact ⟨(rv_int (b := mixR n) rfl).trans (rv_int H.out), rfl⟩
theorem kyMan (s : Nat) (m : Int) (hs : s < 64) (h0 : -128 ≤ m) (h1 : m ≤ 127) (w : World) : Calls Try.prog 48 #[.int .i64 s, .int .i8 m] w fun e w' => e = .returned (.int .u64 (manK s m)) ∧ w = w' := by
  by_cases hm : m = 0
  · have H : Hid (manK s m = 0) := hid (by unfold manK; rw [if_pos hm])
    have b := beq_t hm
    clear hm
    go_enter Try.func48, Try.ntmps48
    go_wp2
    go_ret
    exact ⟨rv_int H.out.symm, rfl⟩
  · have H : Hid (manK s m = mixZ (w64 (16 * s + m + 8))) := hid (by unfold manK; rw [if_neg hm])
    have b := beq_f hm
    clear hm
    go_enter Try.func48, Try.ntmps48
    go_wp2_with (go_at_call 46; refine (kyMix _ _).mono ?_; rintro e w' ⟨rfl, rfl⟩)
    go_ret
    exact ⟨rv_int H.out.symm, rfl⟩
set_option maxRecDepth 10000 in
theorem psNone (w : World) : Calls Try.prog 70 #[] w fun e w' => e = .returned (.agg (pv zL 0 0 (-1))) ∧ Below w.heap.size w w' := by
  go_enter Try.func70, Try.ntmps70
  go_wp2_with (first
    | (refine ag_alloc posT w.heap.size rfl rfl rfl ?_; intro w1 hb1 hB1 hs1)
    | (refine ag_build (.agg (pv zL 0 0 (-1))) _ rfl rfl ?_ ?_; (intro ww; simp only [List.map_toArray, List.map_cons, List.map_nil]; exact bd_none ww))
    | (refine ag_store posT w.heap.size 0 _ (pv zL 0 0 (-1)) (pv zL 0 0 (-1)) hB1 rfl (by decide) (pv_one _ _ _ _) (ppv_put _ _ _ _ _ _ _ _ rfl rfl) rfl _ _ rfl rfl rfl ?_; intro w2 ho2 hB2))
  refine bodyPost_ret (v := .agg (pv zL 0 0 (-1))) (ag_result posT rfl _ _ _ hB2 rfl rfl) rfl ⟨rfl, ho2.below hb1 (by omega)⟩
set_option maxRecDepth 10000 in
theorem psFirst (w : World) : Calls Try.prog 45 #[] w fun e w' => e = .returned (.agg (pv firstL 0 15 (-1))) ∧ Below w.heap.size w w' := by
  go_enter Try.func45, Try.ntmps45
  go_wp2_with (first
    | (refine ag_alloc posT w.heap.size rfl rfl rfl ?_; intro w1 hb1 hB1 hs1; have k1 := True.intro)
    | (go_at_call 70; refine (psNone _).mono ?_; rintro e w2 ⟨rfl, hb2⟩; have z2 := hb2.size)
    | (clear k1; refine ag_alloc posT w2.heap.size rfl rfl rfl ?_; intro w3 hb3 hB3 hs3)
    | (refine ag_store posT w2.heap.size 0 _ (pv zL 0 0 (-1)) (pv zL 0 0 (-1)) hB3 rfl (by decide) (pv_one _ _ _ _) (ppv_put _ _ _ _ _ _ _ _ rfl rfl) rfl _ _ rfl rfl rfl ?_; intro w4 ho4 hB4)
    | (go_at_call 28; refine (bdFirst _).mono ?_; rintro e w5 ⟨rfl, hb5⟩)
    | (refine ag_store boardT w2.heap.size 0 (pv zL 0 0 (-1)) (bv firstL) (pv firstL 0 0 (-1)) (hB4.below hb5 (by rw [ho4.size]; omega)) rfl (by decide) (bv_one _) (pv_put _ _ _ _ _ rfl rfl) rfl _ _ rfl rfl rfl ?_; intro w6 ho6 hB6; have c65 : w6.cell? ⟨w2.heap.size, 65, none⟩ = some (.int .i64 0) := hB6.cell 65; have f65 := hB6.free 65)
    | (refine ag_load posT w2.heap.size 0 _ (pv firstL 0 15 (-1)) ((hB6.set 65 (.int .i64 15))) (by decide) rfl rfl _ rfl rfl ?_)
    | (refine ag_store posT w.heap.size 0 (pv zL 0 0 0) (pv firstL 0 15 (-1)) (pv firstL 0 15 (-1)) ((((((hB1.below hb2 (by omega)).below hb3 (by omega)).off ho4 (by omega)).below hb5 (by rw [ho4.size]; omega)).off ho6 (by omega)).far (by simp; omega) _) rfl (by decide) (pv_one _ _ _ _) (ppv_put _ _ _ _ _ _ _ _ rfl rfl) rfl _ _ rfl rfl rfl ?_; intro w7 ho7 hB7))
  refine bodyPost_ret (v := .agg (pv firstL 0 15 (-1))) (ag_result posT rfl _ _ _ hB7 rfl rfl) rfl ⟨rfl, ?_⟩
  have l2 := hb1.trans (hb2.mono (by omega))
  have l4 := ho4.below (l2.trans (hb3.mono (by omega))) (by omega)
  exact ho7.below ((ho6.below (l4.trans (hb5.mono (by rw [ho4.size]; omega))) (by omega)).setCell (by simp; omega) _) (by omega)

set_option maxRecDepth 10000 in
set_option maxHeartbeats 1000000 in
theorem kyRest (l : List Int) (t c e : Int) (hl : l.length = 64) (he0 : -9223372036854775808 ≤ e) (he : e ≤ 9223372036854775807) (w : World) :
    Calls Try.prog 47 #[.agg (pv l t c e)] w fun e' w' => e' = .returned (.int .u64 (restK t c e)) ∧ Below w.heap.size w w' := by
  have HL := hid hl
  obtain ⟨p0, p1, p2⟩ := pv_cell l t c e hl
  have P0 := hid p0
  have P1 := hid p1
  have P2 := hid p2
  clear hl p0 p1 p2
  have hturn : Hid (restP t c 0 = if t = 1 then mixZ 1024 else 0) := hid rfl
  have hx0 : xr 0 (mixZ 1024) = mixZ 1024 := by rw [xr_comm U64_zero (mix_U _), xr_zero (mix_U _)]
  unfold xr at hx0
  have HX0 := hid hx0
  clear hx0
  suffices H : ∀ (b : Bool), (t == 1) = b → Calls Try.prog 47 #[.agg (pv l t c e)] w fun e' w' => e' = .returned (.int .u64 (restK t c e)) ∧ Below w.heap.size w w' from H _ rfl
  intro b hb
  cases b
  all_goals
    go_enter Try.func47, Try.ntmps47
    go_wp2_with (first
      | (refine ag_box (pv l t c e) w.heap.size rfl rfl _ rfl rfl ?_; intro w1 hb1 hB1 hs1; have c64 : w1.cell? ⟨w.heap.size, 64, none⟩ = some (.int .i64 t) := (hB1.cell 64).trans P0.out)
      | (go_at_call 46; refine (kyMix _ _).mono ?_; rintro e w' ⟨rfl, rfl⟩))
    have c65 : w1.cell? ⟨w.heap.size, 65, none⟩ = some (.int .i64 c) := (hB1.cell 65).trans P1.out
    have c66 : w1.cell? ⟨w.heap.size, 66, none⟩ = some (.int .i64 e) := (hB1.cell 66).trans P2.out
    clear hB1 hs1
    go_loop [3, 4] (fun v u => ∃ (j : Nat) (r : Int), j ≤ 4 ∧ v = .int .u64 (restP t c j) ∧ u = .int .i64 r ∧ Hid (r = (2 ^ j : Nat))) (fun _ u => (16 - intOf u).toNat)
    case atStart =>
      refine ⟨0, 1, by omega, ?_, rfl, hid rfl⟩
      rw [hturn.out]
      first
        | rw [if_neg (by simpa using hb)]
        | (rw [if_pos (by simpa using hb), HX0.out])
    case round =>
      obtain ⟨j, r, hj, rfl, rfl, hr⟩ := hrel
      rcases (show j = 0 ∨ j = 1 ∨ j = 2 ∨ j = 3 ∨ j = 4 by omega) with rfl | rfl | rfl | rfl | rfl
      · obtain rfl : r = 1 := hr.out
        by_cases hz : bits BinOp.and .i64 c 1 = 0
        · have b2 := bne_f hz
          have M := hid (restP_no t c 0 hz)
          clear hz
          go_wp2
          go_round
          case rel => exact ⟨1, 2, by omega, by rw [M.out], rfl, hid rfl⟩
          case measure => simp [intOf]
        · have b2 := bne_t hz
          have M := hid (restP_yes t c 0 hz)
          clear hz
          go_wp2_with (go_at_call 46; refine (kyMix _ _).mono ?_; rintro e w' ⟨rfl, rfl⟩)
          go_round
          case rel => exact ⟨1, 2, by omega, by rw [M.out]; rfl, rfl, hid rfl⟩
          case measure => simp [intOf]
      · obtain rfl : r = 2 := hr.out
        by_cases hz : bits BinOp.and .i64 c 2 = 0
        · have b2 := bne_f hz
          have M := hid (restP_no t c 1 hz)
          clear hz
          go_wp2
          go_round
          case rel => exact ⟨2, 4, by omega, by rw [M.out], rfl, hid rfl⟩
          case measure => simp [intOf]
        · have b2 := bne_t hz
          have M := hid (restP_yes t c 1 hz)
          clear hz
          go_wp2_with (go_at_call 46; refine (kyMix _ _).mono ?_; rintro e w' ⟨rfl, rfl⟩)
          go_round
          case rel => exact ⟨2, 4, by omega, by rw [M.out]; rfl, rfl, hid rfl⟩
          case measure => simp [intOf]
      · obtain rfl : r = 4 := hr.out
        by_cases hz : bits BinOp.and .i64 c 4 = 0
        · have b2 := bne_f hz
          have M := hid (restP_no t c 2 hz)
          clear hz
          go_wp2
          go_round
          case rel => exact ⟨3, 8, by omega, by rw [M.out], rfl, hid rfl⟩
          case measure => simp [intOf]
        · have b2 := bne_t hz
          have M := hid (restP_yes t c 2 hz)
          clear hz
          go_wp2_with (go_at_call 46; refine (kyMix _ _).mono ?_; rintro e w' ⟨rfl, rfl⟩)
          go_round
          case rel => exact ⟨3, 8, by omega, by rw [M.out]; rfl, rfl, hid rfl⟩
          case measure => simp [intOf]
      · obtain rfl : r = 8 := hr.out
        by_cases hz : bits BinOp.and .i64 c 8 = 0
        · have b2 := bne_f hz
          have M := hid (restP_no t c 3 hz)
          clear hz
          go_wp2
          go_round
          case rel => exact ⟨4, 16, by omega, by rw [M.out], rfl, hid rfl⟩
          case measure => simp [intOf]
        · have b2 := bne_t hz
          have M := hid (restP_yes t c 3 hz)
          clear hz
          go_wp2_with (go_at_call 46; refine (kyMix _ _).mono ?_; rintro e w' ⟨rfl, rfl⟩)
          go_round
          case rel => exact ⟨4, 16, by omega, by rw [M.out]; rfl, rfl, hid rfl⟩
          case measure => simp [intOf]
      · obtain rfl : r = 16 := hr.out
        by_cases hm : -1 < e
        · have M := hid (restK_yes (t := t) (c := c) hm)
          have hwe : IntKind.u64.wrap e = e := by rw [IntKind.wrap_u64]; omega
          go_wp2_with (go_at_call 46; refine (kyMix _ _).mono ?_; rintro e w' ⟨rfl, rfl⟩)
          go_ret
          exact ⟨rv_int (by rw [M.out]; rfl), hb1⟩
        · have M := hid (restK_no (t := t) (c := c) hm)
          go_wp2
          go_ret
          exact ⟨rv_int M.out.symm, hb1⟩

theorem first_B8 : B8 firstL := ⟨rfl, fun i => by
  rcases Nat.lt_or_ge i 64 with h | h
  · have : ∀ k : Fin 64, -128 ≤ firstL.getD k.val 0 ∧ firstL.getD k.val 0 ≤ 127 := by decide
    exact this ⟨i, h⟩
  · rw [List.getD_eq_getElem?_getD, List.getElem?_eq_none (by exact h)]; decide⟩
set_option maxRecDepth 10000 in
set_option maxHeartbeats 1000000 in
theorem kyOf (l : List Int) (t c e : Int) (hB : B8 l) (he0 : -9223372036854775808 ≤ e) (he : e ≤ 9223372036854775807) (w : World) :
    Calls Try.prog 15 #[.agg (pv l t c e)] w fun e' w' => e' = .returned (.int .u64 (keyZ l t c e)) ∧ Below w.heap.size w w' := by
  have HL := hid hB.1
  have HE := hid hB.2
  have HR := hid (kyRest l t c e hB.1 he0 he)
  clear hB
  go_enter Try.func15, Try.ntmps15
  go_wp2_with (first
    | (refine ag_box (pv l t c e) w.heap.size rfl rfl _ rfl rfl ?_; intro w1 hb1 hB1 hs1; have k1 := True.intro)
    | (clear k1; refine ag_load posT w.heap.size 0 (pv l t c e) (pv l t c e) hB1 (by rw [pv_size, HL.out]; omega) (by rw [show 0 + 67 = (pv l t c e).size by rw [pv_size, HL.out], Array.extract_size]) rfl _ rfl rfl ?_)
    | (go_at_call 47; refine (HR.out _).mono ?_; rintro e w2 ⟨rfl, hb2⟩)
    | (refine ag_load boardT w.heap.size 0 (pv l t c e) (bv l) (hB1.below hb2 (by omega)) (by rw [pv_size, HL.out]; omega) (pv_board l t c e HL.out) rfl _ rfl rfl ?_))
  have HLw := hid (hb1.trans (hb2.mono (by omega)))
  clear hb1 hb2 hB1 hs1
  go_loop [3, 10] (fun v u => ∃ j : Nat, j ≤ 64 ∧ v = .int .u64 (menK (restK t c e) (l.take j) 0) ∧ u = .int .i64 j) (fun _ u => 64 - (intOf u).toNat)
  case atStart => exact ⟨0, by omega, rfl, rfl⟩
  case round =>
    obtain ⟨j, hj, rfl, rfl⟩ := hrel
    by_cases hlt : j < 64
    · have hix := ix_board l HL.out j (by omega) (by omega)
      rw [Int.toNat_natCast] at hix
      have hm := hid (menK_take (restK t c e) l j (by rw [HL.out]; exact hlt))
      have hb := HE.out j
      have HM := hid (kyMan j (l.getD j 0) hlt hb.1 hb.2)
      clear hb
      generalize l.getD j 0 = x at *
      go_wp2_with (go_at_call 48; refine (HM.out _).mono ?_; rintro e w' ⟨rfl, rfl⟩)
      go_round
      case rel => exact ⟨j + 1, by omega, by rw [hm.out]; rfl, by go_num⟩
      case measure => simp [intOf]; omega
    · obtain rfl : j = 64 := by omega
      go_wp2
      go_ret
      exact ⟨rv_int (by rw [List.take_of_length_le (by rw [HL.out]; omega)]; rfl), HLw.out⟩
end Go.Proofs.Ytpgdcpkggmkooaa
