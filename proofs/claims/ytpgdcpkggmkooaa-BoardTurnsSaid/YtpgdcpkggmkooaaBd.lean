/- The walks of package board: Turned, First. -/
import Derived.Test.YtpgdcpkggmkooaaArr
import Derived.Test.YtpgdcpkggmkooaaBp
import Derived.Test.YtpgdcpkggmkooaaSqL
namespace Go.Proofs.Ytpgdcpkggmkooaa
open Go.RowKit
set_option maxRecDepth 10000 in
theorem bdTurned (l : List Int) (hl : l.length = 64) (w : World) :
    Calls Try.prog 26 #[.agg (bv l)] w fun e w' => e = .returned (.agg (bv (turnL l))) ∧ Below w.heap.size w w' := by
  have HL := hid hl
  clear hl
  have k2 := True.intro
  have k3 := True.intro
  go_enter Try.func26, Try.ntmps26
  go_wp2_with (first
    | (refine ag_box (bv l) w.heap.size rfl rfl _ rfl rfl ?_; intro w1 hb1 hB1 hs1)
    | (clear k2; refine ag_alloc boardT (w.heap.size + 1) hs1 rfl rfl ?_; intro w2 hb2 hB2 hs2)
    | (clear k3; refine ag_alloc boardT (w.heap.size + 2) hs2 rfl rfl ?_; intro w3 hb3 hB3 hs3)
    | (refine ag_load boardT w.heap.size 0 (bv l) (bv l) ((hB1.below hb2 (by omega)).below hb3 (by omega)) (by rw [bv_size, HL.out]; omega) (by rw [show 0 + 64 = (bv l).size by rw [bv_size, HL.out], Array.extract_size]) rfl _ rfl rfl ?_))
  have HLw : Hid (Below w.heap.size w w3) := hid (hb1.trans ((hb2.mono (by omega)).trans (hb3.mono (by omega))))
  have HB2 := hid (hB2.below hb3 (by omega))
  have HB3 := hid hB3
  have HS3 := hid hs3
  clear hb1 hb2 hb3 hB1 hB2 hB3 hs1 hs2 hs3
  go_loopw [7] (fun v wr => ∃ k : Nat, k ≤ 64 ∧ v = .int .i64 k ∧ Hid (Blk wr (w.heap.size + 1) 24 (bv zL)) ∧ Hid (Blk wr (w.heap.size + 2) 24 (bv (turnK l k))) ∧ Hid (Below w.heap.size w wr)) (fun v _ => 64 - (intOf v).toNat)
  case atStart => exact ⟨0, by omega, rfl, HB2, by rw [turnK_zero]; exact HB3, HLw⟩
  case round =>
    obtain ⟨k, hk, rfl, G2, G3, GL⟩ := hrel
    by_cases hlt : k < 64
    · have hix := ix_board l HL.out k (by omega) (by omega)
      rw [Int.toNat_natCast] at hix
      have HF := hid (sqFlip (k : Int))
      rw [flipN_Z hlt] at HF
      have hfl := flipN_lt hlt
      have hat := at_board (w.heap.size + 2) 0 (flipN k : Nat) (by omega) (by omega)
      rw [Int.toNat_natCast, Nat.zero_add] at hat
      have c0 : wr.cell? ⟨w.heap.size + 2, flipN k, none⟩ = some (.int .i8 ((turnK l k).getD (flipN k) 0)) := (G3.out.cell _).trans (bv_get _ _ (by rw [turnK_len]; exact hfl))
      have f0 := G3.out.free (flipN k)
      have G3' := hid (G3.out.set (flipN k) (.int .i8 (neg8 (l.getD k 0))))
      rw [bv_set, turnK_step l hlt] at G3'
      have ht := turnK_step l hlt
      generalize flipN k = f at *
      go_wp2_with (go_at_call 53; refine (HF.out _).mono ?_; rintro e w' ⟨rfl, rfl⟩)
      go_roundw
      case rel => exact ⟨k + 1, by omega, by go_num, hid (G2.out.far (by simp) _), G3', hid (GL.out.setCell (by simp) _)⟩
      case measure => simp [intOf]; omega
    · obtain rfl : k = 64 := by omega
      rw [turnK_all] at G3
      have ht := hid (turnL_len l)
      go_wp2_with (first
        | (refine ag_load boardT (w.heap.size + 2) 0 (bv (turnL l)) (bv (turnL l)) G3.out (by rw [bv_size, ht.out]; omega) (by rw [show 0 + 64 = (bv (turnL l)).size by rw [bv_size, ht.out], Array.extract_size]) rfl _ rfl rfl ?_)
        | (refine ag_store boardT (w.heap.size + 1) 0 (bv zL) (bv (turnL l)) (bv (turnL l)) G2.out (by rw [bv_size, ht.out]) (by rw [bv_size]; decide) (bv_one _) (bv_put _ _ rfl ht.out) rfl _ _ rfl rfl rfl ?_; intro w5 ho5 hB5))
      refine bodyPost_ret (v := .agg (bv (turnL l))) (ag_result boardT rfl _ _ _ hB5 (by rw [bv_size, ht.out]) rfl) rfl ⟨rfl, ho5.below GL.out (by omega)⟩
set_option maxRecDepth 10000 in
theorem bdFirst (w : World) : Calls Try.prog 28 #[] w fun e w' => e = .returned (.agg (bv firstL)) ∧ Below w.heap.size w w' := by
  have k1 := True.intro
  have k2 := True.intro
  go_enter Try.func28, Try.ntmps28
  go_wp2_with (first
    | (clear k1; refine ag_alloc boardT w.heap.size rfl rfl rfl ?_; intro w1 hb1 hB1 hs1)
    | (clear k2; refine ag_alloc boardT (w.heap.size + 1) hs1 rfl rfl ?_; intro w2 hb2 hB2 hs2))
  have HLw : Hid (Below w.heap.size w w2) := hid (hb1.trans (hb2.mono (by omega)))
  have HB1 := hid (hB1.below hb2 (by omega))
  have HB2 := hid hB2
  have HS2 := hid hs2
  clear hb1 hb2 hB1 hB2 hs1 hs2
  go_loopw [8] (fun v wr => ∃ k : Nat, k ≤ 8 ∧ v = .int .i64 k ∧ Hid (wr.heap.size = w.heap.size + 2) ∧ Hid (Blk wr w.heap.size 24 (bv zL)) ∧ Hid (Blk wr (w.heap.size + 1) 24 (bv (firstH k))) ∧ Hid (Below w.heap.size w wr)) (fun v _ => 8 - (intOf v).toNat)
  case atStart => exact ⟨0, by omega, rfl, HS2, HB1, by rw [firstH_zero]; exact HB2, HLw⟩
  case round =>
    obtain ⟨k, hk, rfl, GS, G1, G2, GL⟩ := hrel
    by_cases hlt : k < 8
    · have hix : ∀ w, (Instr.index 63 (.agg #[.int .i8 4, .int .i8 2, .int .i8 3, .int .i8 5, .int .i8 6, .int .i8 3, .int .i8 2, .int .i8 4]) (.int .i64 k)).run Try.prog w = .ok (.int .i8 (backL.getD k 0)) w := fun w => ix_eight backL rfl k (by omega) (by omega) w
      have hat := at_board (w.heap.size + 1) 0 k (by omega) (by omega)
      rw [Int.toNat_natCast, Nat.zero_add] at hat
      have hat2 := at_board (w.heap.size + 1) 0 (8 + k : Int) (by omega) (by omega)
      rw [show (8 + (k : Int)).toNat = 8 + k by omega, Nat.zero_add] at hat2
      have G2' := hid ((G2.out.set k (.int .i8 (backL.getD k 0))).set (8 + k) (.int .i8 1))
      rw [bv_set, bv_set, firstH_step ⟨k, hlt⟩] at G2'
      have c0 : wr.cell? ⟨w.heap.size + 1, k, none⟩ = some (.int .i8 ((firstH k).getD k 0)) := (G2.out.cell _).trans (bv_get _ _ (by rw [firstH_len]; omega))
      have f0 := G2.out.free k
      have G3 := G2.out.set k (.int .i8 (backL.getD k 0))
      rw [bv_set] at G3
      have c1 : (wr.setCell ⟨w.heap.size + 1, k, none⟩ (.int .i8 (backL.getD k 0))).cell? ⟨w.heap.size + 1, 8 + k, none⟩ = some (.int .i8 (((firstH k).set k (backL.getD k 0)).getD (8 + k) 0)) := (G3.cell _).trans (bv_get _ _ (by rw [List.length_set, firstH_len]; omega))
      have f1 := G3.free (8 + k)
      generalize backL.getD k 0 = bk at *
      clear G3
      go_wp2
      go_roundw
      case rel => exact ⟨k + 1, by omega, by go_num, hid (by simpa [World.setCell] using GS.out), hid ((G1.out.far (by simp) _).far (by simp) _), G2', hid ((GL.out.setCell (by simp) _).setCell (by simp) _)⟩
      case measure => simp [intOf]; omega
    · obtain rfl : k = 8 := by omega
      have hl8 := hid (firstH_len 8)
      have hh := hid (turnL_len (firstH 8))
      have gs : wr.heap.size = w.heap.size + 2 := GS.out
      have g1 := G1.out
      have g2 := G2.out
      go_wp2_with (first
        | (refine ag_load boardT (w.heap.size + 1) 0 (bv (firstH 8)) (bv (firstH 8)) g2 (by rw [bv_size, hl8.out]; omega) (by rw [show 0 + 64 = (bv (firstH 8)).size by rw [bv_size, hl8.out], Array.extract_size]) rfl _ rfl rfl ?_)
        | (go_at_call 26; refine (bdTurned (firstH 8) hl8.out _).mono ?_; rintro e w3 ⟨rfl, hb3⟩)
        | (refine ag_alloc boardT w3.heap.size rfl rfl rfl ?_; intro w4 hb4 hB4 hs4)
        | (refine ag_store boardT w3.heap.size 0 (bv zL) (bv halfL) (bv halfL) hB4 (by rw [bv_size]; exact hh.out) (by rw [bv_size]; decide) (bv_one _) (bv_put _ _ rfl hh.out) rfl _ _ rfl rfl rfl ?_; intro w5 ho5 hB5)
        | (refine ag_load boardT w3.heap.size 0 (bv halfL) (bv halfL) hB5 (by rw [bv_size, show halfL.length = 64 from hh.out]; omega) (by rw [show 0 + 64 = (bv halfL).size by rw [bv_size, show halfL.length = 64 from hh.out], Array.extract_size]) rfl _ rfl rfl ?_))
      have hm3 := hb3.size
      have HLw : Hid (Below w.heap.size w w5) := hid (ho5.below ((GL.out.trans (hb3.mono (by omega))).trans (hb4.mono (by omega))) (by omega))
      have HB1 := hid (((g1.below hb3 (by omega)).below hb4 (by omega)).off ho5 (by omega))
      have HB2 := hid (((g2.below hb3 (by omega)).below hb4 (by omega)).off ho5 (by omega))
      clear hb3 hb4 hB4 hs4 ho5 hB5 g1 g2 gs GS G1 G2 GL hm3
      go_loopw [22] (fun v wr => ∃ k : Nat, k ≤ 64 ∧ v = .int .i64 k ∧ Hid (Blk wr w.heap.size 24 (bv zL)) ∧ Hid (Blk wr (w.heap.size + 1) 24 (bv (mergeK k))) ∧ Hid (Below w.heap.size w wr)) (fun v _ => 64 - (intOf v).toNat)
      case atStart => exact ⟨0, by omega, rfl, HB1, by rw [mergeK_zero]; exact HB2, HLw⟩
      case round =>
        obtain ⟨k, hk, rfl, G1, G2, GL⟩ := hrel
        by_cases hlt : k < 64
        · have hix := ix_board halfL hh.out k (by omega) (by omega)
          rw [Int.toNat_natCast] at hix
          obtain ⟨m1, m2⟩ := mergeK_step ⟨k, hlt⟩
          dsimp only at m1 m2
          by_cases hx : halfL.getD k 0 = 0
          · have hb := bne_f hx
            have M := hid (m2 hx)
            rw [hx] at hix
            clear hx m1 m2 hb
            go_wp2
            go_roundw
            case rel => exact ⟨k + 1, by omega, by go_num, G1, by rw [← M.out]; exact G2, GL⟩
            case measure => simp [intOf]; omega
          · have hb := bne_t hx
            have hat := at_board (w.heap.size + 1) 0 k (by omega) (by omega)
            rw [Int.toNat_natCast, Nat.zero_add] at hat
            have G2' := hid (G2.out.set k (.int .i8 (halfL.getD k 0)))
            rw [bv_set, m1 hx] at G2'
            have c0 : wr.cell? ⟨w.heap.size + 1, k, none⟩ = some (.int .i8 ((mergeK k).getD k 0)) := (G2.out.cell _).trans (bv_get _ _ (by rw [mergeK_len]; omega))
            have f0 := G2.out.free k
            clear hx m1 m2
            generalize halfL.getD k 0 = bk at *
            go_wp2
            go_roundw
            case rel => exact ⟨k + 1, by omega, by go_num, hid (G1.out.far (by simp) _), G2', hid (GL.out.setCell (by simp) _)⟩
            case measure => simp [intOf]; omega
        · obtain rfl : k = 64 := by omega
          rw [mergeK_all] at G2
          go_wp2_with (first
            | (refine ag_load boardT (w.heap.size + 1) 0 (bv firstL) (bv firstL) G2.out (by rw [bv_size]; decide) (by rw [show 0 + 64 = (bv firstL).size by rw [bv_size]; rfl, Array.extract_size]) rfl _ rfl rfl ?_)
            | (refine ag_store boardT w.heap.size 0 (bv zL) (bv firstL) (bv firstL) G1.out (by rw [bv_size]; rfl) (by rw [bv_size]; decide) (bv_one _) (bv_put _ _ rfl rfl) rfl _ _ rfl rfl rfl ?_; intro w5 ho5 hB5))
          refine bodyPost_ret (v := .agg (bv firstL)) (ag_result boardT rfl _ _ _ hB5 (by rw [bv_size]; rfl) rfl) rfl ⟨rfl, ho5.below GL.out (by omega)⟩

end Go.Proofs.Ytpgdcpkggmkooaa
