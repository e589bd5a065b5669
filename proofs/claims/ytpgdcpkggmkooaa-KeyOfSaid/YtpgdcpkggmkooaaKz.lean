/- The walks of key.Behind, of the reference's Of, and the law KeyOf. -/
import Derived.Test.YtpgdcpkggmkooaaKyL
namespace Go.Proofs.Ytpgdcpkggmkooaa
open Go.RowKit
set_option maxRecDepth 10000 in
set_option maxHeartbeats 1000000 in
theorem kyBehind (k : Int) (l l' : List Int) (t c e t' c' e' : Int) (hk : U64 k) (hB : B8 l) (hB' : B8 l') (he0 : -9223372036854775808 ≤ e) (he : e ≤ 9223372036854775807) (he0' : -9223372036854775808 ≤ e') (he' : e' ≤ 9223372036854775807) (w : World) :
    Calls Try.prog 17 #[.int .u64 k, .agg (pv l t c e), .agg (pv l' t' c' e')] w fun e1 w' => e1 = .returned (.int .u64 (bhZ k l l' (restK t c e) (restK t' c' e'))) ∧ Below w.heap.size w w' := by
  have HL := hid hB.1
  have HE := hid hB.2
  have HL' := hid hB'.1
  have HE' := hid hB'.2
  have HR := hid (kyRest l t c e hB.1 he0 he)
  have HR' := hid (kyRest l' t' c' e' hB'.1 he0' he')
  have HK := hid hk
  clear hB hB' hk
  have k1 := True.intro
  go_enter Try.func17, Try.ntmps17
  go_wp2_with (first
    | (clear k1; refine ag_box (pv l t c e) w.heap.size rfl rfl _ rfl rfl ?_; intro w1 hb1 hB1 hs1)
    | (refine ag_box (pv l' t' c' e') (w.heap.size + 1) hs1 rfl _ rfl rfl ?_; intro w2 hb2 hB2 hs2))
  have HLw := hid (hb1.trans (hb2.mono (by omega)))
  have G1 := hid (hB1.below hb2 (by omega))
  have G2 := hid hB2
  clear hb1 hb2 hB1 hB2 hs1 hs2
  go_loopw [0, 8] (fun v u wr => ∃ j : Nat, j ≤ 64 ∧ v = .int .u64 (xr k (xr (mj l j) (mj l' j))) ∧ u = .int .i64 j ∧ Hid (Blk wr w.heap.size 26 (pv l t c e)) ∧ Hid (Blk wr (w.heap.size + 1) 26 (pv l' t' c' e')) ∧ Hid (Below w.heap.size w wr)) (fun _ u _ => 64 - (intOf u).toNat)
  case atStart => exact ⟨0, by omega, by rw [mj_zero, mj_zero, xr_zero U64_zero, xr_zero HK.out], rfl, G1, G2, HLw⟩
  case round =>
    obtain ⟨j, hj, rfl, rfl, G1, G2, GL⟩ := hrel
    by_cases hlt : j < 64
    · have hat := at_board w.heap.size 0 j (by omega) (by omega)
      have hat2 := at_board (w.heap.size + 1) 0 j (by omega) (by omega)
      rw [Int.toNat_natCast, Nat.zero_add] at hat hat2
      have c1 : wr.cell? ⟨w.heap.size, j, none⟩ = some (.int .i8 (l.getD j 0)) := (G1.out.cell j).trans (pv_get l t c e j (by rw [HL.out]; exact hlt))
      have c2 : wr.cell? ⟨w.heap.size + 1, j, none⟩ = some (.int .i8 (l'.getD j 0)) := (G2.out.cell j).trans (pv_get l' t' c' e' j (by rw [HL'.out]; exact hlt))
      have m1 := hid (mj_suc l j (by rw [HL.out]; exact hlt))
      have m2 := hid (mj_suc l' j (by rw [HL'.out]; exact hlt))
      have hb := HE.out j
      have hb' := HE'.out j
      have M1 := hid (kyMan j (l.getD j 0) hlt hb.1 hb.2)
      have M2 := hid (kyMan j (l'.getD j 0) hlt hb'.1 hb'.2)
      clear hb hb'
      by_cases hx : l.getD j 0 = l'.getD j 0
      · have b := bne_f hx
        have S : Hid (xr k (xr (mj l (j + 1)) (mj l' (j + 1))) = xr k (xr (mj l j) (mj l' j))) := hid (by
          rw [m1.out, m2.out, hx, bh_same HK.out (mj_U _ _) (mj_U _ _) (man_U _ _)])
        clear hx m1 m2
        generalize l.getD j 0 = x at *
        generalize l'.getD j 0 = y at *
        go_wp2
        go_quiet (fail)
        go_wp2
        go_roundw
        case rel => exact ⟨j + 1, by omega, by rw [S.out], by go_num, hid G1.out, hid G2.out, hid (below_drewN GL.out _)⟩
        case measure => simp [intOf]; omega
      · have b := bne_t hx
        have S : Hid (xr k (xr (mj l (j + 1)) (mj l' (j + 1))) = xr (xr k (xr (mj l j) (mj l' j))) (xr (manK j (l.getD j 0)) (manK j (l'.getD j 0)))) := hid (by
          rw [m1.out, m2.out, bh_step HK.out (mj_U _ _) (mj_U _ _) (man_U _ _) (man_U _ _)])
        clear hx m1 m2
        generalize l.getD j 0 = x at *
        generalize l'.getD j 0 = y at *
        go_wp2
        go_quiet (fail)
        go_wp2
        go_quiet ((first | (go_at_call 48; (with_reducible refine (M1.out _).mono ?_); rintro e w9 ⟨rfl, rfl⟩; exact ⟨rfl, _, rfl⟩) | (go_at_call 48; (with_reducible refine (M2.out _).mono ?_); rintro e w9 ⟨rfl, rfl⟩; exact ⟨rfl, _, rfl⟩)))
        go_wp2
        go_roundw
        case rel => exact ⟨j + 1, by omega, by rw [S.out]; rfl, by go_num, hid G1.out, hid G2.out, hid (below_drewN GL.out _)⟩
        case measure => simp [intOf]; omega
    · obtain rfl : j = 64 := by omega
      have g1 := G1.out.lt
      have g2 := G2.out.lt
      go_wp2
      refine up_region (by kernel_rfl) (by kernel_rfl) ?_
      quiet_step (fail)
      refine wpQuiet_step (fun K hK => ?_)
      refine q_load posT w.heap.size 0 (pv l t c e) (pv l t c e) (fun w' ⟨n, hn⟩ => by rw [hn]; exact G1.out.below n.below g1) (pw_le HL.out _ _ _) (pw_ex HL.out _ _ _) _ rfl rfl rfl (hK _ ?_)
      clear hK K
      quiet_step ((go_at_call 47; refine (HR.out _).mono ?_; rintro e w7 ⟨rfl, hb7⟩; exact ⟨rfl, Up.next _ hb7 (Up.below _).size⟩))
      quiet_step (fail)
      refine wpQuiet_step (fun K hK => ?_)
      refine q_load posT (w.heap.size + 1) 0 (pv l' t' c' e') (pv l' t' c' e') (fun w' ⟨n, hn⟩ => by rw [hn]; exact G2.out.below n.below g2) (pw_le HL'.out _ _ _) (pw_ex HL'.out _ _ _) _ rfl rfl rfl (hK _ ?_)
      clear hK K
      quiet_step ((go_at_call 47; refine (HR'.out _).mono ?_; rintro e w7 ⟨rfl, hb7⟩; exact ⟨rfl, Up.next _ hb7 (Up.below _).size⟩))
      quiet_step (fail)
      quiet_step (fail)
      refine wpQuiet_nil ?_
      rintro w8 ⟨n, rfl⟩
      go_wp2
      go_ret
      exact ⟨rv_int rfl, GL.out.trans (n.below.mono GL.out.size)⟩

set_option maxRecDepth 10000 in
set_option maxHeartbeats 2000000 in
theorem rKey (l : List Int) (t c e : Int) (hB : B8 l) (he0 : -9223372036854775808 ≤ e) (he : e ≤ 9223372036854775807) (w : World) :
    Calls Try.prog 16 #[.agg (pv l t c e)] w fun e1 w' => e1 = .returned (.int .u64 (keyZ l t c e)) ∧ Below w.heap.size w w' := by
  have HL := hid hB.1
  have HE := hid hB.2
  obtain ⟨p0, p1, p2⟩ := pv_cell l t c e hB.1
  have P0 := hid p0
  have P1 := hid p1
  have P2 := hid p2
  have MU := hid (mj_U l 64)
  have RK := hid (refKey (l := l) hB.1 t c e)
  clear hB p0 p1 p2
  suffices H : ∀ (b : Bool), (t == 1) = b → Calls Try.prog 16 #[.agg (pv l t c e)] w fun e1 w' => e1 = .returned (.int .u64 (keyZ l t c e)) ∧ Below w.heap.size w w' from H _ rfl
  intro b hb
  go_enter Try.func16, Try.ntmps16
  go_wp2_with (refine ag_box (pv l t c e) w.heap.size rfl rfl _ rfl rfl ?_; intro w1 hb1 hB1 hs1)
  have c64 : w1.cell? ⟨w.heap.size, 64, none⟩ = some (.int .i64 t) := (hB1.cell 64).trans P0.out
  have c65 : w1.cell? ⟨w.heap.size, 65, none⟩ = some (.int .i64 c) := (hB1.cell 65).trans P1.out
  have c66 : w1.cell? ⟨w.heap.size, 66, none⟩ = some (.int .i64 e) := (hB1.cell 66).trans P2.out
  have G1 := hid hB1
  clear hB1 hs1
  go_loop [3, 4] (fun v u => ∃ j : Nat, j ≤ 64 ∧ v = .int .u64 (mj l j) ∧ u = .int .i64 j) (fun _ u => 64 - (intOf u).toNat)
  case atStart => exact ⟨0, by omega, rfl, rfl⟩
  case round =>
    obtain ⟨j, hj, rfl, rfl⟩ := hrel
    by_cases hlt : j < 64
    · have hat := at_board w.heap.size 0 j (by omega) (by omega)
      rw [Int.toNat_natCast, Nat.zero_add] at hat
      have c1 : w1.cell? ⟨w.heap.size, j, none⟩ = some (.int .i8 (l.getD j 0)) := (G1.out.cell j).trans (pv_get l t c e j (by rw [HL.out]; exact hlt))
      have m1 := hid (mj_suc l j (by rw [HL.out]; exact hlt))
      obtain ⟨x0, x1⟩ := HE.out j
      clear hb
      by_cases hx : l.getD j 0 = 0
      · have b := bne_f hx
        have M : Hid (mj l (j + 1) = mj l j) := hid (by rw [m1.out, hx, show manK j 0 = 0 from if_pos rfl, xr_zero (mj_U _ _)])
        clear hx
        generalize l.getD j 0 = x at *
        go_wp2
        go_round
        case rel => exact ⟨j + 1, by omega, by rw [M.out], by go_num⟩
        case measure => simp [intOf]; omega
      · have b := bne_t hx
        have M : Hid (mj l (j + 1) = xr (mj l j) (mixZ (w64 (16 * j + l.getD j 0 + 8)))) := hid (by rw [m1.out, show manK j (l.getD j 0) = mixZ (w64 (16 * j + l.getD j 0 + 8)) from if_neg hx])
        clear hx m1
        generalize l.getD j 0 = x at *
        go_wp2_with (go_at_call 49; refine (rMix _ _).mono ?_; rintro e w' ⟨rfl, rfl⟩)
        go_round
        case rel => exact ⟨j + 1, by omega, by rw [M.out]; rfl, by go_num⟩
        case measure => simp [intOf]; omega
    · obtain rfl : j = 64 := by omega
      clear hlt hj
      have hturn : Hid (restQ (mj l 64) t c 0 = xr (mj l 64) (if t = 1 then mixZ 1024 else 0)) := hid rfl
      cases b
      all_goals
        go_wp2_with (go_at_call 49; refine (rMix _ _).mono ?_; rintro e w' ⟨rfl, rfl⟩)
        go_loop [3, 5] (fun v u => ∃ (j : Nat) (r : Int), j ≤ 4 ∧ v = .int .u64 (restQ (mj l 64) t c j) ∧ u = .int .i64 r ∧ Hid (r = (2 ^ j : Nat))) (fun _ u => (16 - intOf u).toNat)
        case atStart =>
          refine ⟨0, 1, by omega, ?_, rfl, hid rfl⟩
          rw [hturn.out]
          first
            | rw [if_neg (by simpa using hb), xr_zero MU.out]
            | (rw [if_pos (by simpa using hb)]; rfl)
        case round =>
          obtain ⟨j, r, hj, rfl, rfl, hr⟩ := hrel
          rcases (show j = 0 ∨ j = 1 ∨ j = 2 ∨ j = 3 ∨ j = 4 by omega) with rfl | rfl | rfl | rfl | rfl
          · obtain rfl : r = 1 := hr.out
            by_cases hz : bits BinOp.and .i64 c 1 = 0
            · have b2 := bne_f hz
              have M := hid (restQ_no MU.out t c 0 hz)
              clear hz
              go_wp2
              go_round
              case rel => exact ⟨1, 2, by omega, by rw [M.out], rfl, hid rfl⟩
              case measure => simp [intOf]
            · have b2 := bne_t hz
              have M := hid (restQ_yes (mj l 64) t c 0 hz)
              clear hz
              go_wp2_with (go_at_call 49; refine (rMix _ _).mono ?_; rintro e w' ⟨rfl, rfl⟩)
              go_round
              case rel => exact ⟨1, 2, by omega, by rw [M.out]; rfl, rfl, hid rfl⟩
              case measure => simp [intOf]
          · obtain rfl : r = 2 := hr.out
            by_cases hz : bits BinOp.and .i64 c 2 = 0
            · have b2 := bne_f hz
              have M := hid (restQ_no MU.out t c 1 hz)
              clear hz
              go_wp2
              go_round
              case rel => exact ⟨2, 4, by omega, by rw [M.out], rfl, hid rfl⟩
              case measure => simp [intOf]
            · have b2 := bne_t hz
              have M := hid (restQ_yes (mj l 64) t c 1 hz)
              clear hz
              go_wp2_with (go_at_call 49; refine (rMix _ _).mono ?_; rintro e w' ⟨rfl, rfl⟩)
              go_round
              case rel => exact ⟨2, 4, by omega, by rw [M.out]; rfl, rfl, hid rfl⟩
              case measure => simp [intOf]
          · obtain rfl : r = 4 := hr.out
            by_cases hz : bits BinOp.and .i64 c 4 = 0
            · have b2 := bne_f hz
              have M := hid (restQ_no MU.out t c 2 hz)
              clear hz
              go_wp2
              go_round
              case rel => exact ⟨3, 8, by omega, by rw [M.out], rfl, hid rfl⟩
              case measure => simp [intOf]
            · have b2 := bne_t hz
              have M := hid (restQ_yes (mj l 64) t c 2 hz)
              clear hz
              go_wp2_with (go_at_call 49; refine (rMix _ _).mono ?_; rintro e w' ⟨rfl, rfl⟩)
              go_round
              case rel => exact ⟨3, 8, by omega, by rw [M.out]; rfl, rfl, hid rfl⟩
              case measure => simp [intOf]
          · obtain rfl : r = 8 := hr.out
            by_cases hz : bits BinOp.and .i64 c 8 = 0
            · have b2 := bne_f hz
              have M := hid (restQ_no MU.out t c 3 hz)
              clear hz
              go_wp2
              go_round
              case rel => exact ⟨4, 16, by omega, by rw [M.out], rfl, hid rfl⟩
              case measure => simp [intOf]
            · have b2 := bne_t hz
              have M := hid (restQ_yes (mj l 64) t c 3 hz)
              clear hz
              go_wp2_with (go_at_call 49; refine (rMix _ _).mono ?_; rintro e w' ⟨rfl, rfl⟩)
              go_round
              case rel => exact ⟨4, 16, by omega, by rw [M.out]; rfl, rfl, hid rfl⟩
              case measure => simp [intOf]
          · obtain rfl : r = 16 := hr.out
            by_cases hm : 0 ≤ e
            · have M : Hid (keyZ l t c e = xr (restQ (mj l 64) t c 4) (mixZ (1056 + e))) := hid (by rw [← RK.out]; unfold epK; rw [if_pos (by omega)])
              have hwe : IntKind.u64.wrap e = e := by rw [IntKind.wrap_u64]; omega
              go_wp2_with (go_at_call 49; refine (rMix _ _).mono ?_; rintro e w' ⟨rfl, rfl⟩)
              go_ret
              exact ⟨rv_int (by rw [M.out]; rfl), hb1⟩
            · have M : Hid (keyZ l t c e = restQ (mj l 64) t c 4) := hid (by rw [← RK.out]; unfold epK; rw [if_neg (by omega), xr_zero (restQ_U MU.out t c 4)])
              go_wp2
              go_ret
              exact ⟨rv_int M.out.symm, hb1⟩

set_option maxRecDepth 10000 in
set_option maxHeartbeats 2000000 in
theorem walk_KeyOf (l : List Int) (t c e : Int) (l' : List Int) (t' c' e' : Int) (hB : B8 l) (he0 : -9223372036854775808 ≤ e) (he : e ≤ 9223372036854775807) (hB' : B8 l') (he0' : -9223372036854775808 ≤ e') (he' : e' ≤ 9223372036854775807) (w : World) :
    Calls Try.prog 3 #[.agg (pv l t c e), .agg (pv l' t' c' e')] w fun e1 w' => e1 = .returned (.bool true) ∧ Below w.heap.size w w' := by
  have HL := hid hB.1
  have HL' := hid hB'.1
  have O1 := hid (kyOf l t c e hB he0 he)
  have O2 := hid (kyOf l' t' c' e' hB' he0' he')
  have R1 := hid (rKey l t c e hB he0 he)
  have U1 : U64 (keyZ l t c e) := menK_U _ _ _ (rest_U _ _ _)
  have U2 : U64 (keyZ l' t' c' e') := menK_U _ _ _ (rest_U _ _ _)
  have N1 := hid (kyBehind _ l l' t c e t' c' e' U1 hB hB' he0 he he0' he')
  have N2 := hid (kyBehind _ l' l t' c' e' t c e U2 hB' hB he0' he' he0 he)
  have N3 := hid (kyBehind _ l l t c e t c e U1 hB hB he0 he he0 he)
  rw [bh_key hB.1 hB'.1] at N1
  rw [bh_key hB'.1 hB.1] at N2
  rw [bh_key hB.1 hB.1] at N3
  clear U1 U2 hB hB'
  generalize keyZ l t c e = x at *
  generalize keyZ l' t' c' e' = y at *
  have k1 := True.intro
  go_enter Try.func3, Try.ntmps3
  go_wp2_with (first
    | (clear k1; refine ag_box (pv l t c e) w.heap.size rfl rfl _ rfl rfl ?_; intro w1 hb1 hB1 hs1)
    | (refine ag_box (pv l' t' c' e') (w.heap.size + 1) hs1 rfl _ rfl rfl ?_; intro w2 hb2 hB2 hs2)
    | (go_at_call 14; refine (kyWakes _).mono ?_; rintro e w3 ⟨rfl, hb3⟩))
  have GL := hid ((hb1.trans (hb2.mono (by omega))).trans (hb3.mono (by omega)))
  have G1 := hid ((hB1.below hb2 (by omega)).below hb3 (by omega))
  have G2 := hid (hB2.below hb3 (by omega))
  clear hb1 hb2 hb3 hB1 hB2 hs1 hs2
  have g1 := G1.out.lt
  have g2 := G2.out.lt
  refine up_region (by kernel_rfl) (by kernel_rfl) ?_
  refine wpQuiet_step (fun K hK => ?_)
  refine q_load posT w.heap.size 0 (pv l t c e) (pv l t c e) (fun w' ⟨n, hn⟩ => by rw [hn]; exact G1.out.below n.below g1) (pw_le HL.out _ _ _) (pw_ex HL.out _ _ _) _ rfl rfl rfl (hK _ ?_)
  clear hK K
  quiet_step ((go_at_call 15; refine (O1.out _).mono ?_; rintro e w7 ⟨rfl, hb7⟩; exact ⟨rfl, Up.next _ hb7 (Up.below _).size⟩))
  refine wpQuiet_step (fun K hK => ?_)
  refine q_load posT (w.heap.size + 1) 0 (pv l' t' c' e') (pv l' t' c' e') (fun w' ⟨n, hn⟩ => by rw [hn]; exact G2.out.below n.below g2) (pw_le HL'.out _ _ _) (pw_ex HL'.out _ _ _) _ rfl rfl rfl (hK _ ?_)
  clear hK K
  quiet_step ((go_at_call 15; refine (O2.out _).mono ?_; rintro e w7 ⟨rfl, hb7⟩; exact ⟨rfl, Up.next _ hb7 (Up.below _).size⟩))
  quiet_step (fail)
  quiet_step (fail)
  refine wpQuiet_nil ?_
  rintro w4 ⟨n, rfl⟩
  replace GL := hid (GL.out.trans (n.below.mono GL.out.size))
  replace G1 := hid (G1.out.below n.below g1)
  replace G2 := hid (G2.out.below n.below g2)
  clear g1 g2
  generalize n.world = w5 at *
  clear n
  go_wp2_with (first
    | (refine ag_load posT w.heap.size 0 (pv l t c e) (pv l t c e) G1.out (pw_le HL.out _ _ _) (pw_ex HL.out _ _ _) rfl _ rfl rfl ?_)
    | (refine ag_load posT (w.heap.size + 1) 0 (pv l' t' c' e') (pv l' t' c' e') G2.out (pw_le HL'.out _ _ _) (pw_ex HL'.out _ _ _) rfl _ rfl rfl ?_))
  refine (R1.out _).mono ?_
  rintro e w6 ⟨rfl, hb6⟩
  replace GL := hid (GL.out.trans (hb6.mono GL.out.size))
  replace G1 := hid (G1.out.below hb6 G1.out.lt)
  replace G2 := hid (G2.out.below hb6 G2.out.lt)
  clear hb6
  go_wp2_with (first
    | (refine ag_load posT w.heap.size 0 (pv l t c e) (pv l t c e) G1.out (pw_le HL.out _ _ _) (pw_ex HL.out _ _ _) rfl _ rfl rfl ?_)
    | (refine ag_load posT (w.heap.size + 1) 0 (pv l' t' c' e') (pv l' t' c' e') G2.out (pw_le HL'.out _ _ _) (pw_ex HL'.out _ _ _) rfl _ rfl rfl ?_))
  refine (N1.out _).mono ?_
  rintro e w7 ⟨rfl, hb7⟩
  replace GL := hid (GL.out.trans (hb7.mono GL.out.size))
  replace G1 := hid (G1.out.below hb7 G1.out.lt)
  replace G2 := hid (G2.out.below hb7 G2.out.lt)
  clear hb7
  go_wp2_with (first
    | (refine ag_load posT w.heap.size 0 (pv l t c e) (pv l t c e) G1.out (pw_le HL.out _ _ _) (pw_ex HL.out _ _ _) rfl _ rfl rfl ?_)
    | (refine ag_load posT (w.heap.size + 1) 0 (pv l' t' c' e') (pv l' t' c' e') G2.out (pw_le HL'.out _ _ _) (pw_ex HL'.out _ _ _) rfl _ rfl rfl ?_))
  refine (N2.out _).mono ?_
  rintro e w8 ⟨rfl, hb8⟩
  replace GL := hid (GL.out.trans (hb8.mono GL.out.size))
  replace G1 := hid (G1.out.below hb8 G1.out.lt)
  replace G2 := hid (G2.out.below hb8 G2.out.lt)
  clear hb8
  go_wp2_with (first
    | (refine ag_load posT w.heap.size 0 (pv l t c e) (pv l t c e) G1.out (pw_le HL.out _ _ _) (pw_ex HL.out _ _ _) rfl _ rfl rfl ?_)
    | (refine ag_load posT (w.heap.size + 1) 0 (pv l' t' c' e') (pv l' t' c' e') G2.out (pw_le HL'.out _ _ _) (pw_ex HL'.out _ _ _) rfl _ rfl rfl ?_))
  refine (N3.out _).mono ?_
  rintro e w9 ⟨rfl, hb9⟩
  replace GL := hid (GL.out.trans (hb9.mono GL.out.size))
  replace G1 := hid (G1.out.below hb9 G1.out.lt)
  replace G2 := hid (G2.out.below hb9 G2.out.lt)
  clear hb9
  go_wp2
  go_ret
  exact ⟨rfl, GL.out⟩
end Go.Proofs.Ytpgdcpkggmkooaa
