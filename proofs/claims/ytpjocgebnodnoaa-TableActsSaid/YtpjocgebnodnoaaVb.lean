/- Tables: the reference's new table, its places of an entry, its entry, how many there are. -/
import Derived.Test.YtpjocgebnodnoaaVa
namespace Go.Proofs.Ytpjocgebnodnoaa
open Go.RowKit
set_option linter.unusedVariables false
set_option linter.unusedSimpArgs false
set_option maxRecDepth 100000
/-- the reference's key of a position is told, and is the program's. -/
def GoodR (q : Key) : Prop := GoodKey q ∧ i_alfilref17_Of.f 200 q.1 q.2.1 q.2.2.1 q.2.2.2.1 = some (keyZ q)
theorem next0 {h j n at_ : Nat} (e : (h + j) % n = at_) (hn : at_ + 1 = n) : (h + (j + 1)) % n = 0 := by
  have h1 := Nat.div_add_mod (h + j) n
  rw [e] at h1
  rw [show h + (j + 1) = n * ((h + j) / n) + n by omega, Nat.add_mod_right, Nat.mul_mod_right]
theorem next1 {h j n at_ : Nat} (e : (h + j) % n = at_) (hn : at_ + 1 < n) : (h + (j + 1)) % n = at_ + 1 := by
  have h1 := Nat.div_add_mod (h + j) n
  rw [e] at h1
  rw [show h + (j + 1) = n * ((h + j) / n) + (at_ + 1) by omega, Nat.mul_add_mod, Nat.mod_eq_of_lt hn]
set_option maxHeartbeats 40000000 in
theorem rnew_calls (w : World) (n : Int) :
    Calls Try.prog 30 #[.int .i64 n] w fun e w' => ∃ g a, e = .returned (.pointer (some ⟨g, 0, none⟩)) ∧ RBx w' (emptyZ (placesZ n)) g a ∧ w.heap.size ≤ g ∧ w.heap.size ≤ a ∧ Below w.heap.size w w' := by
 have HL := hid (Below.refl w.heap.size w)
 obtain ⟨N, hN_⟩ : ∃ N, placesZ n = N := ⟨_, rfl⟩
 have HN := hid hN_
 have HN0 : Hid (0 < N) := hid (by rw [← hN_]; unfold placesZ; omega)
 have HN1 : Hid (N ≤ 65536) := hid (by rw [← hN_]; unfold placesZ; omega)
 by_cases c1 : n < 1
 · have b1 : decide (n < (1 : Int)) = true := decide_eq_true c1
   have HV : Hid ((1 : Int) = (N : Int)) := hid (by rw [← hN_]; unfold placesZ; omega)
   clear c1 hN_
   obtain rfl : N = 1 := by have := HV.out; omega
   clear HV
   go_enter Try.func30, Try.ntmps30
   have k1 := True.intro
   have k2 := True.intro
   go_wp2_with (first
    | ((with_reducible refine gate_d (N := 10) rfl ?_); clear k1; obtain ⟨ga, hga⟩ : ∃ g_, w.heap.size = g_ := ⟨_, rfl⟩; refine ag_fixw _ _ (ex_make57 1 HN1.out _ _ rfl rfl rfl) rfl ?_; obtain ⟨w1, hw1_⟩ : ∃ w_, w.alloc (.cells (rcells (emptyZ 1)) 62) = w_ := ⟨_, rfl⟩; rw [hw1_]; rw [hga]; have HL1 : Hid (Below w.heap.size w w1) := hid (by rw [← hw1_]; exact (Below.refl _ _).alloc (Nat.le_refl _) _); have BKa : Hid (Blk w1 ga 62 (rcells (emptyZ 1))) := hid (by rw [← hw1_, ← hga]; exact Blk.new _ _ _); have HGA : Hid (w.heap.size = ga) := hid hga; clear hw1_ hga HL)
    | ((with_reducible refine gate_d (N := 11) rfl ?_); refine ag_fix (.agg #[.slice (some ⟨ga, 0, none⟩) 1 1]) (ex_build _ _ rfl (fun w_ => by simp only [List.map_toArray, List.map_cons, List.map_nil]; kernel_rfl)) rfl ?_)
    | ((with_reducible refine gate_d (N := 12) rfl ?_); clear k2; obtain ⟨g, hg⟩ : ∃ g_, w1.heap.size = g_ := ⟨_, rfl⟩; refine ag_box (#[.slice (some ⟨ga, 0, none⟩) 1 1]) g hg rfl _ rfl rfl ?_; intro w2 hb_ hB_ hs_; have HG : Hid (w.heap.size ≤ g) := hid (by rw [← hg]; exact HL1.out.size); have HNE : Hid (ga < g) := hid (by rw [← hg]; exact BKa.out.lt); have HL2 := hid (HL1.out.trans (hb_.mono HG.out)); have BKa2 := hid (BKa.out.below hb_ HNE.out); have BKg := hid hB_; clear hb_ hB_ hs_ hg HL1 BKa))
   (try simp only [Act.put, sI, sZ, sS])
   go_ret
   exact ⟨g, ga, rfl, by rw [HN.out]; exact RBx.new BKg.out BKa2.out HN0.out HN1.out, HG.out, by rw [HGA.out]; exact Nat.le_refl _, HL2.out⟩
 · have b1 : decide (n < (1 : Int)) = false := decide_eq_false c1
   by_cases c2 : n > 65536
   · have b2 : decide (n > (65536 : Int)) = true := decide_eq_true c2
     have b2' : decide ((65536 : Int) < n) = true := decide_eq_true c2
     have HV : Hid ((65536 : Int) = (N : Int)) := hid (by rw [← hN_]; unfold placesZ; omega)
     clear c1 c2 hN_
     obtain rfl : N = 65536 := by have := HV.out; omega
     clear HV
     go_enter Try.func30, Try.ntmps30
     have k1 := True.intro
     have k2 := True.intro
     go_wp2_with (first
      | ((with_reducible refine gate_d (N := 10) rfl ?_); clear k1; obtain ⟨ga, hga⟩ : ∃ g_, w.heap.size = g_ := ⟨_, rfl⟩; refine ag_fixw _ _ (ex_make57 65536 HN1.out _ _ rfl rfl rfl) rfl ?_; obtain ⟨w1, hw1_⟩ : ∃ w_, w.alloc (.cells (rcells (emptyZ 65536)) 62) = w_ := ⟨_, rfl⟩; rw [hw1_]; rw [hga]; have HL1 : Hid (Below w.heap.size w w1) := hid (by rw [← hw1_]; exact (Below.refl _ _).alloc (Nat.le_refl _) _); have BKa : Hid (Blk w1 ga 62 (rcells (emptyZ 65536))) := hid (by rw [← hw1_, ← hga]; exact Blk.new _ _ _); have HGA : Hid (w.heap.size = ga) := hid hga; clear hw1_ hga HL)
      | ((with_reducible refine gate_d (N := 11) rfl ?_); refine ag_fix (.agg #[.slice (some ⟨ga, 0, none⟩) 65536 65536]) (ex_build _ _ rfl (fun w_ => by simp only [List.map_toArray, List.map_cons, List.map_nil]; kernel_rfl)) rfl ?_)
      | ((with_reducible refine gate_d (N := 12) rfl ?_); clear k2; obtain ⟨g, hg⟩ : ∃ g_, w1.heap.size = g_ := ⟨_, rfl⟩; refine ag_box (#[.slice (some ⟨ga, 0, none⟩) 65536 65536]) g hg rfl _ rfl rfl ?_; intro w2 hb_ hB_ hs_; have HG : Hid (w.heap.size ≤ g) := hid (by rw [← hg]; exact HL1.out.size); have HNE : Hid (ga < g) := hid (by rw [← hg]; exact BKa.out.lt); have HL2 := hid (HL1.out.trans (hb_.mono HG.out)); have BKa2 := hid (BKa.out.below hb_ HNE.out); have BKg := hid hB_; clear hb_ hB_ hs_ hg HL1 BKa))
     (try simp only [Act.put, sI, sZ, sS])
     go_ret
     exact ⟨g, ga, rfl, by rw [HN.out]; exact RBx.new BKg.out BKa2.out HN0.out HN1.out, HG.out, by rw [HGA.out]; exact Nat.le_refl _, HL2.out⟩
   · have b2 : decide (n > (65536 : Int)) = false := decide_eq_false c2
     have b2' : decide ((65536 : Int) < n) = false := decide_eq_false c2
     have HV : n = (N : Int) := by rw [← hN_]; unfold placesZ; omega
     clear c1 c2 hN_
     subst HV
     go_enter Try.func30, Try.ntmps30
     have k1 := True.intro
     have k2 := True.intro
     go_wp2_with (first
      | ((with_reducible refine gate_d (N := 10) rfl ?_); clear k1; obtain ⟨ga, hga⟩ : ∃ g_, w.heap.size = g_ := ⟨_, rfl⟩; refine ag_fixw _ _ (ex_make57 N HN1.out _ _ rfl rfl rfl) rfl ?_; obtain ⟨w1, hw1_⟩ : ∃ w_, w.alloc (.cells (rcells (emptyZ N)) 62) = w_ := ⟨_, rfl⟩; rw [hw1_]; rw [hga]; have HL1 : Hid (Below w.heap.size w w1) := hid (by rw [← hw1_]; exact (Below.refl _ _).alloc (Nat.le_refl _) _); have BKa : Hid (Blk w1 ga 62 (rcells (emptyZ N))) := hid (by rw [← hw1_, ← hga]; exact Blk.new _ _ _); have HGA : Hid (w.heap.size = ga) := hid hga; clear hw1_ hga HL)
      | ((with_reducible refine gate_d (N := 11) rfl ?_); refine ag_fix (.agg #[.slice (some ⟨ga, 0, none⟩) N N]) (ex_build _ _ rfl (fun w_ => by simp only [List.map_toArray, List.map_cons, List.map_nil]; kernel_rfl)) rfl ?_)
      | ((with_reducible refine gate_d (N := 12) rfl ?_); clear k2; obtain ⟨g, hg⟩ : ∃ g_, w1.heap.size = g_ := ⟨_, rfl⟩; refine ag_box (#[.slice (some ⟨ga, 0, none⟩) N N]) g hg rfl _ rfl rfl ?_; intro w2 hb_ hB_ hs_; have HG : Hid (w.heap.size ≤ g) := hid (by rw [← hg]; exact HL1.out.size); have HNE : Hid (ga < g) := hid (by rw [← hg]; exact BKa.out.lt); have HL2 := hid (HL1.out.trans (hb_.mono HG.out)); have BKa2 := hid (BKa.out.below hb_ HNE.out); have BKg := hid hB_; clear hb_ hB_ hs_ hg HL1 BKa))
     (try simp only [Act.put, sI, sZ, sS])
     go_ret
     exact ⟨g, ga, rfl, by rw [HN.out]; exact RBx.new BKg.out BKa2.out HN0.out HN1.out, HG.out, by rw [HGA.out]; exact Nat.le_refl _, HL2.out⟩
set_option maxHeartbeats 40000000 in
theorem rrow_calls {w : World} {L : Slots} {g a : Nat} (h : RBx w L g a) (q : Key) (hq : GoodR q) :
    Calls Try.prog 58 #[.pointer (some ⟨g, 0, none⟩), .agg (pv q.1 q.2.1 q.2.2.1 q.2.2.2.1), .int .i64 q.2.2.2.2] w fun e w' => ∃ u, e = .returned u ∧ Own w' w.heap.size 3 u ((rowV L.length q).map (Value.int .i64)) ∧ Below w.heap.size w w' := by
 have HL := hid (Below.refl w.heap.size w)
 have TB := hid h
 have HQ := hid hq.1.1
 have HK := hid hq.2
 have HP := hid h.pos
 have HB := hid h.bd
 obtain ⟨n, hn_⟩ : ∃ n, L.length = n := ⟨_, rfl⟩
 have HN := hid hn_
 obtain ⟨hz, hz_⟩ : ∃ z, homeZ L.length q = z := ⟨_, rfl⟩
 have HZ := hid hz_
 have HZL : Hid (hz < L.length) := hid (by rw [← hz_]; exact homeZ_lt h.pos q)
 clear h hq hn_ hz_
 go_enter Try.func58, Try.ntmps58
 have k1 := True.intro
 go_wp2_with (first
   | ((with_reducible refine gate_d (N := 4) rfl ?_); clear k1; obtain ⟨g4, hg4⟩ : ∃ g_, w.heap.size = g_ := ⟨_, rfl⟩; refine ag_box (pv q.1 q.2.1 q.2.2.1 q.2.2.2.1) g4 hg4 rfl _ rfl rfl ?_; intro w1 hb_ hB_ hs_; have HL1 := hid (HL.out.trans (hb_.mono (by rw [← hg4]; exact HL.out.size))); have TB1 := hid (TB.out.below (by rw [hg4]; exact hb_)); have BK1 := hid hB_; clear hb_ hB_ hs_ hg4 HL TB))
 (try simp only [Act.put, sI, sZ, sS])
 have WR64 := i64_w
 refine sq_region (fun w'_ => Blk w'_ g4 46 (pv q.1 q.2.1 q.2.2.1 q.2.2.2.1) ∧ Blk w'_ g 59 #[.slice (some ⟨a, 0, none⟩) L.length L.length]) [] [(0, 1), (2, 2), (3, 2), (5, 2), (6, 2), (7, 2), (8, 1), (9, 2), (10, 2), (1, 0), (4, 2), (11, 2), (12, 2), (13, 2)] (by kernel_rfl) (by kernel_rfl) (by kernel_rfl) rfl ?_
 intro w2 hb_
 have HL2 := hid (HL1.out.trans (hb_.mono HL1.out.size))
 have TB2 := hid (TB1.out.below hb_)
 have BK2 := hid (BK1.out.below hb_ BK1.out.lt)
 clear hb_ HL1 TB1 BK1
 refine sq_take (.agg (pv q.1 q.2.1 q.2.2.1 q.2.2.2.1)) ⟨BK2.out, TB2.out.tab⟩ rfl (fun w'_ hS_ => ex_load posT g4 0 (pv q.1 q.2.1 q.2.2.1 q.2.2.2.1) (pv q.1 q.2.1 q.2.2.1 q.2.2.2.1) hS_.1 (pos_le HQ.out) (pos_all HQ.out) _ rfl rfl) rfl rfl ?_
 intro ts_ ht_; simp only [sI, sZ, sS] at ht_; subst ht_
 refine sq_pure (.int .i64 q.2.2.2.2) rfl (fun w'_ => ex_mv (.tmp 2) (.inl rfl) _ rfl) rfl rfl ?_
 intro ts_ ht_; simp only [sI, sZ, sS] at ht_; subst ht_
 refine sq_pure (.int .u64 (IntKind.u64.wrap q.2.2.2.2)) rfl (fun w'_ => by go_simp) rfl rfl ?_
 intro ts_ ht_; simp only [sI, sZ, sS] at ht_; subst ht_
 refine sq_pure (.pointer (some ⟨g, 0, none⟩)) rfl (fun w'_ => ex_mv (.tmp 0) (.inl rfl) _ rfl) rfl rfl ?_
 intro ts_ ht_; simp only [sI, sZ, sS] at ht_; subst ht_
 refine sq_pure (.pointer (some ⟨g, 0, none⟩)) rfl (fun w'_ => by go_simp) rfl rfl ?_
 intro ts_ ht_; simp only [sI, sZ, sS] at ht_; subst ht_
 refine sq_pure (.pointer (some ⟨g, 0, none⟩)) rfl (fun w'_ => ex_field 59 0 (.pointer (some ⟨g, 0, none⟩)) (.pointer (some ⟨g, 0, none⟩)) (t_fa59_0 g) _ rfl rfl) rfl rfl ?_
 intro ts_ ht_; simp only [sI, sZ, sS] at ht_; subst ht_
 refine sq_take (.slice (some ⟨a, 0, none⟩) L.length L.length) ⟨BK2.out, TB2.out.tab⟩ rfl (fun w'_ hS_ => ex_get t_sT57 g 0 (.slice (some ⟨a, 0, none⟩) L.length L.length) #[.slice (some ⟨a, 0, none⟩) L.length L.length] hS_.2 rfl _ rfl rfl) rfl rfl ?_
 intro ts_ ht_; simp only [sI, sZ, sS] at ht_; subst ht_
 refine sq_pure (.int .i64 (L.length : Int)) rfl (fun w'_ => ex_len t_us57 _ _ _ _ rfl _ rfl rfl) rfl rfl ?_
 intro ts_ ht_; simp only [sI, sZ, sS] at ht_; subst ht_
 refine sq_pure (.int .u64 (L.length : Int)) rfl (fun w'_ => (show _ from by go_simp; rw [u64_w]; have h1_ := HB.out; omega)) rfl rfl ?_
 intro ts_ ht_; simp only [sI, sZ, sS] at ht_; subst ht_
 refine sq_act rfl (fun Q'_ hQ_ => ?_)
 refine wl_call 98 #[.agg (pv q.1 q.2.1 q.2.2.1 q.2.2.2.1)] (by go_simp) rfl ((i_alfilref17_Of.calls 200 q.1 q.2.1 q.2.2.1 q.2.2.2.1 HQ.out (keyZ q) _ HK.out).mono ?_)
 rintro e_ w3 ⟨rfl, hb_⟩
 have HL3 := hid (HL2.out.trans (hb_.mono HL2.out.size))
 have TB3 := hid (TB2.out.below hb_)
 have BK3 := hid (BK2.out.below hb_ BK2.out.lt)
 clear hb_ HL2 TB2 BK2
 refine ⟨_, rfl, ?_⟩
 refine hQ_ _ _ (fun _ => ⟨BK3.out, TB3.out.tab⟩) ?_
 clear hQ_ Q'_
 simp only [Act.put, sI, sZ, sS]
 refine sq_pure (.int .u64 (IntKind.u64.wrap (keyZ q + IntKind.u64.wrap q.2.2.2.2))) rfl (fun w'_ => by go_simp) rfl rfl ?_
 intro ts_ ht_; simp only [sI, sZ, sS] at ht_; subst ht_
 refine sq_pure (.int .u64 (hz : Int)) rfl (fun w'_ => (ex_rem (IntKind.u64.wrap (keyZ q + IntKind.u64.wrap q.2.2.2.2)) (L.length : Int) (by rw [u64_w]; omega) (by have h1_ := HP.out; omega) _ _ rfl rfl rfl).trans (by rw [show IntKind.u64.wrap (keyZ q + IntKind.u64.wrap q.2.2.2.2) % (L.length : Int) = (hz : Int) by rw [← HZ.out]; exact (home_int HP.out q).symm])) rfl rfl ?_
 intro ts_ ht_; simp only [sI, sZ, sS] at ht_; subst ht_
 refine sq_pure (.int .i64 (hz : Int)) rfl (fun w'_ => (show _ from by go_simp; (try rw [i64_w]); exact k64 (by omega) (by have := HZL.out; have := HB.out; omega))) rfl rfl ?_
 intro ts_ ht_; simp only [sI, sZ, sS] at ht_; subst ht_
 refine sq_pure (.int .i64 (hz : Int)) rfl (fun w'_ => ex_mv (.tmp 21) (.inr rfl) _ rfl) rfl rfl ?_
 intro ts_ ht_; simp only [sI, sZ, sS] at ht_; subst ht_
 refine sq_end ?_
 clear WR64 BK3
 obtain ⟨M, hM_⟩ : ∃ M : Nat, min 4 L.length = M := ⟨_, rfl⟩
 have HM4 : Hid (M ≤ 4) := hid (by omega)
 have HMN : Hid (M = min 4 L.length) := hid hM_.symm
 clear hM_
 go_wp2_with fail
 (try simp only [Act.put, sI, sZ, sS])
 go_loopg [7, 8] 5 (fun kq v7 v8 w' => ∃ (at_ j : Nat), v7 = .int .i64 (at_ : Int) ∧ Hid ((hz + j) % L.length = at_) ∧ Hid (kq + j = 5) ∧ Hid (j ≤ M) ∧ Hid (Own w' w.heap.size 3 v8 (((rowV L.length q).take j).map (Value.int .i64))) ∧ Hid (RBx w' L g a) ∧ Hid (Below w.heap.size w w'))
 case atStart => exact ⟨hz, 0, rfl, hid (by rw [Nat.add_zero, Nat.mod_eq_of_lt HZL.out]), hid (by omega), hid (by omega), hid (Own.nil _ _ _), TB3, HL3⟩
 case round =>
  clear TB3 HL3
  obtain ⟨at_, j, rfl, HAT, HK2, HJM, SO, TB, HL⟩ := hrel
  obtain ⟨K1, rfl⟩ : ∃ K_, gk = K_ + 1 := ⟨gk - 1, by have := HK2.out; have := HJM.out; have := HM4.out; omega⟩
  have LEN : Hid ((((rowV L.length q).take j).map (Value.int .i64)).length = j) := hid (by rw [List.length_map, List.length_take]; unfold rowV; rw [List.length_map, rowZ_len]; have := HJM.out; have := HMN.out; omega)
  have HAL : Hid (at_ < L.length) := hid (by rw [← HAT.out]; exact Nat.mod_lt _ HP.out)
  obtain ⟨xj, hxj_⟩ : ∃ x : Int, (j : Int) = x := ⟨_, rfl⟩
  have HXJ := hid hxj_
  clear hxj_
  by_cases c : xj < 4
  ·
   have cb : decide (xj < 4) = true := decide_eq_true c
   by_cases c2 : xj < (L.length : Int)
   ·
    have cb2 : decide (xj < (L.length : Int)) = true := decide_eq_true c2
    have HC := hid c
    have HC2 := hid c2
    clear c c2
    have ROW : Hid ((rowV L.length q).take (j + 1) = (rowV L.length q).take j ++ [(at_ : Int)]) := hid (by rw [← HAT.out, ← HZ.out]; exact row_suc q (by have := HC.out; have := HC2.out; have := HXJ.out; omega))
    have k2 := True.intro
    have k3 := True.intro
    by_cases c3 : (at_ : Int) + 1 = (L.length : Int)
    ·
     have ce : (((at_ : Int) + 1) == (L.length : Int)) = true := beq_iff_eq.mpr c3
     have HNX : Hid ((hz + (j + 1)) % L.length = 0) := hid (next0 HAT.out (by omega))
     have SM : wrap64 ((at_ : Int) + 1) = (at_ : Int) + 1 := k64 (by omega) (by have := HAL.out; have := HB.out; omega)
     clear c3
     go_wp2_with (first
       | ((with_reducible refine gate_d (N := 23) rfl ?_); obtain ⟨A_, c_, hv_⟩ := SO.out.sl.shape; rw [LEN.out] at hv_; refine ag_fix (.int .i64 xj) ((ex_len t_us27 _ _ _ _ hv_ _ rfl rfl).trans (by rw [HXJ.out])) rfl ?_; clear hv_)
       | ((with_reducible refine gate_d (N := 27) rfl ?_); obtain ⟨A_, c_, hv_⟩ := SO.out.sl.shape; rw [LEN.out] at hv_; refine ag_fix (.int .i64 xj) ((ex_len t_us27 _ _ _ _ hv_ _ rfl rfl).trans (by rw [HXJ.out])) rfl ?_; clear hv_)
       | ((with_reducible refine gate_d (N := 30) rfl ?_); refine ag_fix (.pointer (some ⟨g, 0, none⟩)) (ex_field 59 0 (.pointer (some ⟨g, 0, none⟩)) (.pointer (some ⟨g, 0, none⟩)) (t_fa59_0 g) _ rfl rfl) rfl ?_)
       | ((with_reducible refine gate_d (N := 31) rfl ?_); refine ag_fix (.slice (some ⟨a, 0, none⟩) L.length L.length) (ex_get t_sT57 g 0 (.slice (some ⟨a, 0, none⟩) L.length L.length) #[.slice (some ⟨a, 0, none⟩) L.length L.length] TB.out.tab rfl _ rfl rfl) rfl ?_)
       | ((with_reducible refine gate_d (N := 32) rfl ?_); refine ag_fix (.int .i64 (L.length : Int)) (ex_len t_us57 _ _ _ _ rfl _ rfl rfl) rfl ?_)
       | ((with_reducible refine gate_d (N := 37) rfl ?_); clear k2; obtain ⟨gl, hgl⟩ : ∃ g_, wr.heap.size = g_ := ⟨_, rfl⟩; refine ag_lit t_sT3 (.int .i64 (at_ : Int)) gl hgl rfl _ rfl rfl (fun w_ => by kernel_rfl) ?_; intro w5 hb_ hB_ hs_; have HL5 := hid (HL.out.trans (hb_.mono (by rw [← hgl]; exact HL.out.size))); have TB5 := hid (TB.out.below (by rw [hgl]; exact hb_)); have SO5 := hid (SO.out.below (by rw [hgl]; exact hb_)); have BKl := hid hB_; clear hb_ hB_ hs_ hgl HL TB SO)
       | ((with_reducible refine gate_d (N := 38) rfl ?_); clear k3; refine app_one t_eT27 w.heap.size _ (((rowV L.length q).take j).map (Value.int .i64)) (.int .i64 (at_ : Int)) gl 1 SO5.out BKl.out rfl (by have h_ := HJM.out; have h2_ := HM4.out; rw [LEN.out]; omega) (by have h_ := HJM.out; have h2_ := HM4.out; rw [LEN.out]; unfold maxLen; omega) HL5.out.size rfl _ _ rfl rfl rfl ?_; intro u6 w6 ho_ hb_ hk_ hi_; have SO6 : Hid (Own w6 w.heap.size 3 u6 (((rowV L.length q).take (j + 1)).map (Value.int .i64))) := hid (by rw [ROW.out, List.map_append]; exact ho_); have HL6 := hid (HL5.out.trans hb_); have TB6 := hid (TB5.out.types hk_); clear ho_ hb_ hk_ hi_ SO5 BKl HL5 TB5)
       | ((with_reducible refine gate_d (N := 44) rfl ?_); refine ag_fix (.pointer (some ⟨g, 0, none⟩)) (ex_field 59 0 (.pointer (some ⟨g, 0, none⟩)) (.pointer (some ⟨g, 0, none⟩)) (t_fa59_0 g) _ rfl rfl) rfl ?_)
       | ((with_reducible refine gate_d (N := 45) rfl ?_); refine ag_fix (.slice (some ⟨a, 0, none⟩) L.length L.length) (ex_get t_sT57 g 0 (.slice (some ⟨a, 0, none⟩) L.length L.length) #[.slice (some ⟨a, 0, none⟩) L.length L.length] TB6.out.tab rfl _ rfl rfl) rfl ?_)
       | ((with_reducible refine gate_d (N := 46) rfl ?_); refine ag_fix (.int .i64 (L.length : Int)) (ex_len t_us57 _ _ _ _ rfl _ rfl rfl) rfl ?_))
     (try simp only [Act.put, sI, sZ, sS])
     go_roundg K1
     case measure => omega
     case rel => exact ⟨0, j + 1, (by first | rfl | (simp; done) | (push_cast; rfl)), HNX, hid (by have := HK2.out; omega), hid (by have := HC.out; have := HC2.out; have := HMN.out; have := HXJ.out; omega), SO6, TB6, HL6⟩
    ·
     have ce : (((at_ : Int) + 1) == (L.length : Int)) = false := beq_eq_false_iff_ne.mpr c3
     have HNX : Hid ((hz + (j + 1)) % L.length = at_ + 1) := hid (next1 HAT.out (by have := HAL.out; omega))
     have SM : wrap64 ((at_ : Int) + 1) = (at_ : Int) + 1 := k64 (by omega) (by have := HAL.out; have := HB.out; omega)
     clear c3
     go_wp2_with (first
       | ((with_reducible refine gate_d (N := 23) rfl ?_); obtain ⟨A_, c_, hv_⟩ := SO.out.sl.shape; rw [LEN.out] at hv_; refine ag_fix (.int .i64 xj) ((ex_len t_us27 _ _ _ _ hv_ _ rfl rfl).trans (by rw [HXJ.out])) rfl ?_; clear hv_)
       | ((with_reducible refine gate_d (N := 27) rfl ?_); obtain ⟨A_, c_, hv_⟩ := SO.out.sl.shape; rw [LEN.out] at hv_; refine ag_fix (.int .i64 xj) ((ex_len t_us27 _ _ _ _ hv_ _ rfl rfl).trans (by rw [HXJ.out])) rfl ?_; clear hv_)
       | ((with_reducible refine gate_d (N := 30) rfl ?_); refine ag_fix (.pointer (some ⟨g, 0, none⟩)) (ex_field 59 0 (.pointer (some ⟨g, 0, none⟩)) (.pointer (some ⟨g, 0, none⟩)) (t_fa59_0 g) _ rfl rfl) rfl ?_)
       | ((with_reducible refine gate_d (N := 31) rfl ?_); refine ag_fix (.slice (some ⟨a, 0, none⟩) L.length L.length) (ex_get t_sT57 g 0 (.slice (some ⟨a, 0, none⟩) L.length L.length) #[.slice (some ⟨a, 0, none⟩) L.length L.length] TB.out.tab rfl _ rfl rfl) rfl ?_)
       | ((with_reducible refine gate_d (N := 32) rfl ?_); refine ag_fix (.int .i64 (L.length : Int)) (ex_len t_us57 _ _ _ _ rfl _ rfl rfl) rfl ?_)
       | ((with_reducible refine gate_d (N := 37) rfl ?_); clear k2; obtain ⟨gl, hgl⟩ : ∃ g_, wr.heap.size = g_ := ⟨_, rfl⟩; refine ag_lit t_sT3 (.int .i64 (at_ : Int)) gl hgl rfl _ rfl rfl (fun w_ => by kernel_rfl) ?_; intro w5 hb_ hB_ hs_; have HL5 := hid (HL.out.trans (hb_.mono (by rw [← hgl]; exact HL.out.size))); have TB5 := hid (TB.out.below (by rw [hgl]; exact hb_)); have SO5 := hid (SO.out.below (by rw [hgl]; exact hb_)); have BKl := hid hB_; clear hb_ hB_ hs_ hgl HL TB SO)
       | ((with_reducible refine gate_d (N := 38) rfl ?_); clear k3; refine app_one t_eT27 w.heap.size _ (((rowV L.length q).take j).map (Value.int .i64)) (.int .i64 (at_ : Int)) gl 1 SO5.out BKl.out rfl (by have h_ := HJM.out; have h2_ := HM4.out; rw [LEN.out]; omega) (by have h_ := HJM.out; have h2_ := HM4.out; rw [LEN.out]; unfold maxLen; omega) HL5.out.size rfl _ _ rfl rfl rfl ?_; intro u6 w6 ho_ hb_ hk_ hi_; have SO6 : Hid (Own w6 w.heap.size 3 u6 (((rowV L.length q).take (j + 1)).map (Value.int .i64))) := hid (by rw [ROW.out, List.map_append]; exact ho_); have HL6 := hid (HL5.out.trans hb_); have TB6 := hid (TB5.out.types hk_); clear ho_ hb_ hk_ hi_ SO5 BKl HL5 TB5)
       | ((with_reducible refine gate_d (N := 44) rfl ?_); refine ag_fix (.pointer (some ⟨g, 0, none⟩)) (ex_field 59 0 (.pointer (some ⟨g, 0, none⟩)) (.pointer (some ⟨g, 0, none⟩)) (t_fa59_0 g) _ rfl rfl) rfl ?_)
       | ((with_reducible refine gate_d (N := 45) rfl ?_); refine ag_fix (.slice (some ⟨a, 0, none⟩) L.length L.length) (ex_get t_sT57 g 0 (.slice (some ⟨a, 0, none⟩) L.length L.length) #[.slice (some ⟨a, 0, none⟩) L.length L.length] TB6.out.tab rfl _ rfl rfl) rfl ?_)
       | ((with_reducible refine gate_d (N := 46) rfl ?_); refine ag_fix (.int .i64 (L.length : Int)) (ex_len t_us57 _ _ _ _ rfl _ rfl rfl) rfl ?_))
     (try simp only [Act.put, sI, sZ, sS])
     go_roundg K1
     case measure => omega
     case rel => exact ⟨at_ + 1, j + 1, (by first | rfl | (simp; done) | (push_cast; rfl)), HNX, hid (by have := HK2.out; omega), hid (by have := HC.out; have := HC2.out; have := HMN.out; have := HXJ.out; omega), SO6, TB6, HL6⟩
   ·
    have cb2 : decide (xj < (L.length : Int)) = false := decide_eq_false c2
    have HC2 := hid c2
    clear c c2
    have SOe := hid (show Own wr w.heap.size 3 _ ((rowV L.length q).map (Value.int .i64)) from by have h_ := SO.out; rw [List.take_of_length_le (by have := HC2.out; have := HMN.out; have := HXJ.out; unfold rowV; rw [List.length_map, rowZ_len]; omega)] at h_; exact h_)
    go_wp2_with (first
      | ((with_reducible refine gate_d (N := 23) rfl ?_); obtain ⟨A_, c_, hv_⟩ := SO.out.sl.shape; rw [LEN.out] at hv_; refine ag_fix (.int .i64 xj) ((ex_len t_us27 _ _ _ _ hv_ _ rfl rfl).trans (by rw [HXJ.out])) rfl ?_; clear hv_)
      | ((with_reducible refine gate_d (N := 27) rfl ?_); obtain ⟨A_, c_, hv_⟩ := SO.out.sl.shape; rw [LEN.out] at hv_; refine ag_fix (.int .i64 xj) ((ex_len t_us27 _ _ _ _ hv_ _ rfl rfl).trans (by rw [HXJ.out])) rfl ?_; clear hv_)
      | ((with_reducible refine gate_d (N := 30) rfl ?_); refine ag_fix (.pointer (some ⟨g, 0, none⟩)) (ex_field 59 0 (.pointer (some ⟨g, 0, none⟩)) (.pointer (some ⟨g, 0, none⟩)) (t_fa59_0 g) _ rfl rfl) rfl ?_)
      | ((with_reducible refine gate_d (N := 31) rfl ?_); refine ag_fix (.slice (some ⟨a, 0, none⟩) L.length L.length) (ex_get t_sT57 g 0 (.slice (some ⟨a, 0, none⟩) L.length L.length) #[.slice (some ⟨a, 0, none⟩) L.length L.length] TB.out.tab rfl _ rfl rfl) rfl ?_)
      | ((with_reducible refine gate_d (N := 32) rfl ?_); refine ag_fix (.int .i64 (L.length : Int)) (ex_len t_us57 _ _ _ _ rfl _ rfl rfl) rfl ?_))
    (try simp only [Act.put, sI, sZ, sS])
    go_ret
    exact ⟨_, rfl, SOe.out, HL.out⟩
  ·
   have cb : decide (xj < 4) = false := decide_eq_false c
   have HC := hid c
   clear c
   have SOe := hid (show Own wr w.heap.size 3 _ ((rowV L.length q).map (Value.int .i64)) from by have h_ := SO.out; rw [List.take_of_length_le (by have := HC.out; have := HMN.out; have := HXJ.out; unfold rowV; rw [List.length_map, rowZ_len]; omega)] at h_; exact h_)
   go_wp2_with (first
     | ((with_reducible refine gate_d (N := 23) rfl ?_); obtain ⟨A_, c_, hv_⟩ := SO.out.sl.shape; rw [LEN.out] at hv_; refine ag_fix (.int .i64 xj) ((ex_len t_us27 _ _ _ _ hv_ _ rfl rfl).trans (by rw [HXJ.out])) rfl ?_; clear hv_))
   (try simp only [Act.put, sI, sZ, sS])
   go_ret
   exact ⟨_, rfl, SOe.out, HL.out⟩
end Go.Proofs.Ytpjocgebnodnoaa
