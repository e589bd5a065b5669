/- The walks of the laws on keys: the wake-up, KeyMixes. -/
import Derived.Test.YtpgdcpkggmkooaaKy
import Derived.Test.YtpgdcpkggmkooaaQt
namespace Go.Proofs.Ytpgdcpkggmkooaa
open Go.RowKit
set_option maxRecDepth 10000 in
set_option maxHeartbeats 1000000 in
theorem kyWakes (w : World) : Calls Try.prog 14 #[] w fun e' w' => e' = .returned (.bool true) ∧ Below w.heap.size w w' := by
  have M0 := hid (kyMix 0)
  rw [key_wakes.1] at M0
  have O1 := hid (kyOf firstL 0 15 (-1) first_B8 (by omega) (by omega))
  have O2 := hid (kyOf firstL 1 15 (-1) first_B8 (by omega) (by omega))
  have hne := bne_t key_wakes.2
  generalize keyZ firstL 0 15 (-1) = x at *
  generalize keyZ firstL 1 15 (-1) = y at *
  go_enter Try.func14, Try.ntmps14
  go_wp2_with (first
    | (go_at_call 45; refine (psFirst _).mono ?_; rintro e w1 ⟨rfl, hb1⟩; have k1 := True.intro; have k2 := True.intro)
    | (clear k1; refine ag_alloc posT w1.heap.size rfl rfl rfl ?_; intro w2 hb2 hB2 hs2)
    | (refine ag_store posT w1.heap.size 0 (pv zL 0 0 0) (pv firstL 0 15 (-1)) (pv firstL 0 15 (-1)) hB2 rfl (by decide) (pv_one _ _ _ _) (ppv_put _ _ _ _ _ _ _ _ rfl rfl) rfl _ _ rfl rfl rfl ?_; intro w3 ho3 hB3)
    | (refine ag_load posT w1.heap.size 0 (pv firstL 0 15 (-1)) (pv firstL 0 15 (-1)) hB3 (by decide) rfl rfl _ rfl rfl ?_; have hs3 : w3.heap.size = w1.heap.size + 1 := ho3.size.trans hs2)
    | (clear k2; refine ag_alloc posT (w1.heap.size + 1) hs3 rfl rfl ?_; intro w4 hb4 hB4 hs4)
    | (refine ag_store posT (w1.heap.size + 1) 0 (pv zL 0 0 0) (pv firstL 0 15 (-1)) (pv firstL 0 15 (-1)) hB4 rfl (by decide) (pv_one _ _ _ _) (ppv_put _ _ _ _ _ _ _ _ rfl rfl) rfl _ _ rfl rfl rfl ?_; intro w5 ho5 hB5; have c64 : w5.cell? ⟨w1.heap.size + 1, 64, none⟩ = some (.int .i64 0) := hB5.cell 64; have f64 := hB5.free 64))
  have HB6 := hid (hB5.set 64 (.int .i64 1))
  have HBp := hid (((hB3.below hb4 (by omega)).off ho5 (by omega)).far (a := ⟨w1.heap.size + 1, 64, none⟩) (by simp) (.int .i64 1))
  have HL : Hid (Below w.heap.size w (w5.setCell ⟨w1.heap.size + 1, 64, none⟩ (.int .i64 1))) := hid ((ho5.below ((ho3.below (hb1.trans (hb2.mono hb1.size)) hb1.size).trans (hb4.mono (by have := hb1.size; omega))) (by have := hb1.size; omega)).setCell (by simp; have := hb1.size; omega) _)
  generalize w5.setCell ⟨w1.heap.size + 1, 64, none⟩ (.int .i64 1) = w6 at *
  clear hb1 hb2 hb4 hB2 hB3 hB4 hB5 ho3 ho5 hs2 hs3 hs4 c64 f64
  have l1 := HBp.out.lt
  have l2 := HB6.out.lt
  refine up_region (by kernel_rfl) (by kernel_rfl) ?_
  quiet_step ((go_at_call 46; refine (M0.out _).mono ?_; rintro e w7 ⟨rfl, rfl⟩; exact ⟨rfl, _, rfl⟩))
  quiet_step (fail)
  quiet_step (fail)
  refine wpQuiet_step (fun K hK => ?_)
  refine q_load posT w1.heap.size 0 (pv firstL 0 15 (-1)) (pv firstL 0 15 (-1)) (fun w' ⟨n, hn⟩ => by rw [hn]; exact HBp.out.below n.below l1) (by decide) rfl _ rfl rfl rfl (hK _ ?_)
  clear hK K
  quiet_step ((go_at_call 15; refine (O1.out _).mono ?_; rintro e w7 ⟨rfl, hb7⟩; exact ⟨rfl, Up.next _ hb7 (Up.below _).size⟩))
  refine wpQuiet_step (fun K hK => ?_)
  refine q_load posT (w1.heap.size + 1) 0 ((pv firstL 0 15 (-1)).setIfInBounds 64 (.int .i64 1)) (pv firstL 1 15 (-1)) (fun w' ⟨n, hn⟩ => by rw [hn]; exact HB6.out.below n.below l2) (by decide) rfl _ rfl rfl rfl (hK _ ?_)
  clear hK K
  quiet_step ((go_at_call 15; refine (O2.out _).mono ?_; rintro e w7 ⟨rfl, hb7⟩; exact ⟨rfl, Up.next _ hb7 (Up.below _).size⟩))
  quiet_step (fail)
  quiet_step (fail)
  quiet_step (fail)
  refine wpQuiet_nil ?_
  rintro w8 ⟨n, rfl⟩
  go_wp2
  go_ret
  exact ⟨rfl, HL.out.trans (n.below.mono HL.out.size)⟩
end Go.Proofs.Ytpgdcpkggmkooaa
