/- Tables: the reference's entry of a position and a depth; how many there are. -/
import Derived.Test.YtpjocgebnodnoaaVb
namespace Go.Proofs.Ytpjocgebnodnoaa
open Go.RowKit
set_option linter.unusedVariables false
set_option linter.unusedSimpArgs false
set_option maxRecDepth 100000
theorem t_sT4 : ScT Try.prog 4 := ⟨fun w => by kernel_rfl, fun w => by kernel_rfl⟩
theorem rent_some (q : Key) (x : Int) : (rent (some (q, x))).toArray = rentC q x true := by unfold rent; simp
theorem rent_none : (rent none).toArray = rentC zK 0 false := by unfold rent; simp
theorem rent_one (o : Option (Key × Int)) : ∀ v ∈ (rent o).toArray.toList, v.oneCell' = true := by
  cases o with
  | none => rw [rent_none]; exact rentC_one _ _ _
  | some z => rw [show (some z : Option (Key × Int)) = some (z.1, z.2) from rfl, rent_some]; exact rentC_one _ _ _
theorem put_whole (us : List Value) (h : us.length = 70) : putAt us.toArray.toList 0 (rentC zK 0 false) = us.toArray := by
  apply Array.toList_inj.mp
  have hz := rentC_size zK 0 false
  rw [putAt_list _ _ _ (by simp; omega)]
  simp [h]
  omega
def fndV (L : Slots) (q : Key) : Int := match findZ_ L q with | some i => (i : Int) | none => -1
set_option maxHeartbeats 40000000 in
theorem rfind_calls {w : World} {L : Slots} {g a : Nat} (h : RBx w L g a) (q : Key) (hq : GoodR q) :
    Calls Try.prog 32 #[.pointer (some ⟨g, 0, none⟩), .agg (pv q.1 q.2.1 q.2.2.1 q.2.2.2.1), .int .i64 q.2.2.2.2] w fun e w' => e = .returned (.int .i64 (fndV L q)) ∧ Below w.heap.size w w' := by
 have HL := hid (Below.refl w.heap.size w)
 have TB := hid h
 have HQ := hid hq.1.1
 have HGK := hid hq
 have HP := hid h.pos
 have HB := hid h.bd
 obtain ⟨l, hl_⟩ : ∃ l, rowZ L.length q = l := ⟨_, rfl⟩
 have HLR := hid hl_
 have HLn : Hid (l.length ≤ 4) := hid (by rw [← hl_, rowZ_len]; omega)
 have HIN : Hid (∀ j, j < l.length → nt l j 0 < L.length) := hid (fun j hj => rowZ_lt h.pos q _ (by rw [hl_]; exact nt_in hj))
 clear h hq hl_
 go_enter Try.func32, Try.ntmps32
 have k1 := True.intro
 have k2 := True.intro
 go_wp2_with (first
   | ((with_reducible refine gate_d (N := 4) rfl ?_); clear k1; obtain ⟨g4, hg4⟩ : ∃ g_, w.heap.size = g_ := ⟨_, rfl⟩; refine ag_box (pv q.1 q.2.1 q.2.2.1 q.2.2.2.1) g4 hg4 rfl _ rfl rfl ?_; intro w1 hb_ hB_ hs_; have HL1 := hid (HL.out.trans (hb_.mono (by rw [← hg4]; exact HL.out.size))); have TB1 := hid (TB.out.below (by rw [hg4]; exact hb_)); have BK1 := hid hB_; clear hb_ hB_ hs_ hg4 HL TB)
   | ((with_reducible refine gate_d (N := 11) rfl ?_); refine ag_fix (.agg (pv q.1 q.2.1 q.2.2.1 q.2.2.2.1)) (ex_load posT g4 0 (pv q.1 q.2.1 q.2.2.1 q.2.2.2.1) (pv q.1 q.2.1 q.2.2.1 q.2.2.2.1) BK1.out (pos_le HQ.out) (pos_all HQ.out) _ rfl rfl) rfl ?_)
   | (go_at_call 58; clear k2; refine (rrow_calls TB1.out q HGK.out).mono ?_; rintro e_ w2 ⟨u, rfl, so_, hb_⟩; have HL2 := hid (HL1.out.trans (hb_.mono HL1.out.size)); have TB2 := hid (TB1.out.below hb_); have BK2 := hid (BK1.out.below hb_ BK1.out.lt); have SO2 : Hid (Own w2 0 3 u ((l.map Int.ofNat).map (Value.int .i64))) := hid (by have h_ := so_; unfold rowV at h_; rw [HLR.out] at h_; exact h_.mono (Nat.zero_le _)); clear so_ hb_ HL1 TB1 BK1))
 (try simp only [Act.put, sI, sZ, sS])
 go_loopg [8] 5 (fun kq v8 w' => ∃ (x8 : Int) (j : Nat), v8 = .int .i64 x8 ∧ Hid (x8 = (j : Int)) ∧ Hid (kq + j = 5) ∧ Hid (j ≤ l.length) ∧ Hid (∀ i ∈ l.take j, atB L q i = false) ∧ Hid (Own w' 0 3 u ((l.map Int.ofNat).map (Value.int .i64))) ∧ Hid (Blk w' g4 46 (pv q.1 q.2.1 q.2.2.1 q.2.2.2.1)) ∧ Hid (RBx w' L g a) ∧ Hid (Below w.heap.size w w'))
 case atStart => exact ⟨0, 0, (by first | rfl | (simp; done)), hid rfl, hid (by omega), hid (by omega), hid (fun i hi => (by simp at hi)), SO2, BK2, TB2, HL2⟩
 case round =>
  clear TB2 HL2 SO2 BK2
  obtain ⟨x8, j, rfl, HJ, HK2, HJM, HNO, SO, BK, TB, HL⟩ := hrel
  obtain ⟨K1, rfl⟩ : ∃ K_, gk = K_ + 1 := ⟨gk - 1, by have := HK2.out; have := HJM.out; have := HLn.out; omega⟩
  by_cases c : x8 < (l.length : Int)
  ·
   have cb : decide (x8 < (l.length : Int)) = true := decide_eq_true c
   have HC := hid c
   clear c
   have HJ0 : Hid (0 ≤ x8) := hid (by have := HJ.out; omega)
   have HJL : Hid (j < l.length) := hid (by have := HJ.out; have := HC.out; omega)
   obtain ⟨at_, hat_⟩ : ∃ z, nt l j 0 = z := ⟨_, rfl⟩
   have HAT := hid hat_
   have HAL : Hid (at_ < L.length) := hid (by rw [← hat_]; exact HIN.out j HJL.out)
   have HNT : Hid (nt (l.map Int.ofNat) x8.toNat 0 = (at_ : Int)) := hid (by rw [← hat_, show x8.toNat = j by have := HJ.out; omega]; exact nt_map HJL.out)
   clear hat_
   obtain ⟨ad, c0, hv_, hc_⟩ := Sl.get (l := l.map Int.ofNat) (f := Value.int .i64) SO.out.sl 0 (i := x8) HJ0.out (by rw [List.length_map]; exact HC.out)
   rw [HNT.out] at hc_
   rw [List.length_map] at hv_
   have HV := hid hv_
   have HCE := hid hc_
   clear hv_ hc_
   go_wp2_with (first
     | ((with_reducible refine gate_d (N := 16) rfl ?_); obtain ⟨A_, c_, hv_⟩ := SO.out.sl.shape; rw [List.length_map, List.length_map] at hv_; refine ag_fix (.int .i64 (l.length : Int)) (ex_len t_us27 _ _ _ _ hv_ _ rfl rfl) rfl ?_; clear hv_))
   (try simp only [Act.put, sI, sZ, sS])
   obtain ⟨E, hE_⟩ : ∃ E, (rent (nt L at_ none)).toArray = E := ⟨_, rfl⟩
   have HE := hid hE_
   clear hE_
   have WR64 := i64_w
   refine sq_region (fun w'_ => Blk w'_ g 59 #[.slice (some ⟨a, 0, none⟩) L.length L.length] ∧ w'_.cell? (ad.add x8.toNat) = some (.int .i64 (at_ : Int)) ∧ Blk w'_ a 62 (rcells L)) [11] [(0, 2), (1, 2), (2, 2), (3, 1), (4, 2), (5, 2), (6, 2), (7, 1), (8, 2), (9, 1), (10, 0), (11, 0)] (by kernel_rfl) (by kernel_rfl) (by kernel_rfl) rfl ?_
   intro w3 hb_
   have HL3 := hid (HL.out.trans (hb_.mono HL.out.size))
   have TB3 := hid (TB.out.below hb_)
   have BK3 := hid (BK.out.below hb_ BK.out.lt)
   have SO3 := hid (SO.out.below hb_)
   have HC3 : Hid (w3.cell? (ad.add x8.toNat) = some (.int .i64 (at_ : Int))) := hid ((hb_.cell (World.block_lt_of_cell? _ _ HCE.out)).trans HCE.out)
   clear hb_ HL TB BK SO HCE
   refine sq_pure (.pointer (some ⟨g, 0, none⟩)) rfl (fun w'_ => by go_simp) rfl rfl ?_
   intro ts_ ht_; simp only [sI, sZ, sS] at ht_; subst ht_
   refine sq_pure (.pointer (some ⟨g, 0, none⟩)) rfl (fun w'_ => by go_simp) rfl rfl ?_
   intro ts_ ht_; simp only [sI, sZ, sS] at ht_; subst ht_
   refine sq_pure (.pointer (some ⟨g, 0, none⟩)) rfl (fun w'_ => ex_field 59 0 (.pointer (some ⟨g, 0, none⟩)) (.pointer (some ⟨g, 0, none⟩)) (t_fa59_0 g) _ rfl rfl) rfl rfl ?_
   intro ts_ ht_; simp only [sI, sZ, sS] at ht_; subst ht_
   refine sq_take (.slice (some ⟨a, 0, none⟩) L.length L.length) ⟨TB3.out.tab, HC3.out, TB3.out.row⟩ rfl (fun w'_ hS_ => ex_get t_sT57 g 0 (.slice (some ⟨a, 0, none⟩) L.length L.length) #[.slice (some ⟨a, 0, none⟩) L.length L.length] hS_.1 rfl _ rfl rfl) rfl rfl ?_
   intro ts_ ht_; simp only [sI, sZ, sS] at ht_; subst ht_
   refine sq_pure (u) rfl (fun w'_ => by go_simp) rfl rfl ?_
   intro ts_ ht_; simp only [sI, sZ, sS] at ht_; subst ht_
   refine sq_pure (.int .i64 x8) rfl (fun w'_ => by go_simp) rfl rfl ?_
   intro ts_ ht_; simp only [sI, sZ, sS] at ht_; subst ht_
   refine sq_pure (.pointer (some (ad.add x8.toNat))) rfl (fun w'_ => ex_sat _ _ x8 _ _ HV.out HJ0.out HC.out t_us27 t_sT3 _ _ rfl rfl rfl) rfl rfl ?_
   intro ts_ ht_; simp only [sI, sZ, sS] at ht_; subst ht_
   refine sq_take (.int .i64 (at_ : Int)) ⟨TB3.out.tab, HC3.out, TB3.out.row⟩ rfl (fun w'_ hS_ => ex_scell t_sT3 _ _ hS_.2.1 _ rfl rfl) rfl rfl ?_
   intro ts_ ht_; simp only [sI, sZ, sS] at ht_; subst ht_
   refine sq_pure (.pointer (some ⟨a, at_ * 70, none⟩)) rfl (fun w'_ => ex_satR a _ _ (at_ : Int) at_ rfl HAL.out _ _ rfl rfl rfl) rfl rfl ?_
   intro ts_ ht_; simp only [sI, sZ, sS] at ht_; subst ht_
   refine sq_take (.agg E) ⟨TB3.out.tab, HC3.out, TB3.out.row⟩ rfl (fun w'_ hS_ => ex_load t_aT62 a (at_ * 70) (rcells L) E hS_.2.2 (rc_le HAL.out) ((rc_ext HAL.out).trans HE.out) _ rfl rfl) rfl rfl ?_
   intro ts_ ht_; simp only [sI, sZ, sS] at ht_; subst ht_
   refine sq_act rfl (fun Q'_ hQ_ => ?_)
   obtain ⟨g9, hg9⟩ : ∃ g_, w3.heap.size = g_ := ⟨_, rfl⟩
   refine ag_alloc t_aT62 g9 hg9 rfl rfl ?_
   intro w4 hb_ hB_ hs_
   have HG9 : Hid (w.heap.size ≤ g9) := hid (by rw [← hg9]; exact HL3.out.size)
   have HL4 := hid (HL3.out.trans (hb_.mono HG9.out))
   have TB4 := hid (TB3.out.below (by rw [hg9]; exact hb_))
   have BK4 := hid (BK3.out.below hb_ (by have := BK3.out.lt; omega))
   have SO4 := hid (SO3.out.below (by rw [hg9]; exact hb_))
   have HC4 : Hid (w4.cell? (ad.add x8.toNat) = some (.int .i64 (at_ : Int))) := hid ((hb_.cell (by have := World.block_lt_of_cell? _ _ HC3.out; omega)).trans HC3.out)
   have BKn := hid hB_
   have HNE : Hid (g4 ≠ g9) := hid (by have := BK3.out.lt; omega)
   have HNG : Hid (g ≠ g9 ∧ a ≠ g9) := hid ⟨by have := TB3.out.tab.lt; omega, by have := TB3.out.row.lt; omega⟩
   clear hb_ hB_ hs_ hg9 HL3 TB3 BK3 SO3 HC3
   refine act_end ?_
   refine hQ_ _ _ (fun _ => ⟨TB4.out.tab, HC4.out, TB4.out.row⟩) ?_
   clear hQ_ Q'_
   simp only [Act.put, sI, sZ, sS]
   refine sq_act rfl (fun Q'_ hQ_ => ?_)
   refine ag_store t_aT62 g9 0 (rentC zK 0 false) E E BKn.out (by rw [← HE.out, List.size_toArray]; exact rent_len _) (by rw [rentC_size]; omega) (by rw [← HE.out]; exact rent_one _) (by rw [← HE.out]; exact put_whole _ (rent_len _)) rfl _ _ rfl rfl rfl ?_
   intro w5 ho_ hB_
   have HL5 := hid (ho_.below HL4.out HG9.out)
   have BK5 := hid (BK4.out.off ho_ HNE.out)
   have TB5 : Hid (RBx w5 L g a) := hid { TB4.out with tab := TB4.out.tab.off ho_ HNG.out.1, row := TB4.out.row.off ho_ HNG.out.2 }
   have SO5 := hid (SO4.out.off ho_ BKn.out (by decide))
   have BKe := hid hB_
   clear ho_ hB_ HL4 BK4 TB4 SO4 HC4 BKn HNE HNG
   refine act_end ?_
   refine hQ_ _ _ (fun h_ => absurd h_ (by decide)) ?_
   clear hQ_ Q'_
   simp only [Act.put]
   refine sq_end ?_
   clear WR64
   cases hs_ : nt L at_ none with
   | none =>
    have HEE : Hid (E = rentC zK 0 false) := hid (by rw [← HE.out, hs_]; exact rent_none)
    have HAB : Hid (atB L q (nt l j 0) = false) := hid (by rw [HAT.out]; unfold atB; rw [hs_])
    clear hs_
    go_wp2_with (first
      | ((with_reducible refine gate_d (N := 30) rfl ?_); refine ag_fix (.pointer (some ⟨g9, 69, none⟩)) (ex_field 62 3 (.pointer (some ⟨g9, 0, none⟩)) (.pointer (some ⟨g9, 69, none⟩)) (t_fa62_3 g9 0) _ rfl rfl) rfl ?_)
      | ((with_reducible refine gate_d (N := 31) rfl ?_); refine ag_fix (.bool false) (ex_get t_sT4 g9 69 (.bool false) E BKe.out (by rw [HEE.out]; exact rentC_cell _ _ _ 5 69 rfl) _ rfl rfl) rfl ?_))
    (try simp only [Act.put, sI, sZ, sS])
    go_roundg K1
    case measure => omega
    case rel => exact ⟨_, j + 1, rfl, hid (by have := HJ.out; have := HJM.out; have := HLn.out; rw [k64 (by omega) (by omega)]; omega), hid (by have := HK2.out; omega), hid (by have := HJL.out; omega), hid (find_step HJL.out HNO.out HAB.out), SO5, BK5, TB5, HL5⟩
   | some z =>
    obtain ⟨q', x'⟩ := z
    have HEE : Hid (E = rentC q' x' true) := hid (by rw [← HE.out, hs_]; exact rent_some q' x')
    have HQ' := hid (TB5.out.keys at_ q' x' hs_)
    have HAB : Hid (atB L q (nt l j 0) = (posB q' q && (q'.2.2.2.2 == q.2.2.2.2))) := hid (by rw [HAT.out, ← posB_key]; unfold atB; rw [hs_])
    clear hs_
    cases hp_ : posB q' q with
    | false =>
     have HPB := hid hp_
     clear hp_
     go_wp2_with (first
       | ((with_reducible refine gate_d (N := 30) rfl ?_); refine ag_fix (.pointer (some ⟨g9, 69, none⟩)) (ex_field 62 3 (.pointer (some ⟨g9, 0, none⟩)) (.pointer (some ⟨g9, 69, none⟩)) (t_fa62_3 g9 0) _ rfl rfl) rfl ?_)
       | ((with_reducible refine gate_d (N := 31) rfl ?_); refine ag_fix (.bool true) (ex_get t_sT4 g9 69 (.bool true) E BKe.out (by rw [HEE.out]; exact rentC_cell _ _ _ 5 69 rfl) _ rfl rfl) rfl ?_)
       | ((with_reducible refine gate_d (N := 33) rfl ?_); refine ag_fix (.pointer (some ⟨g9, 0, none⟩)) (ex_field 62 0 (.pointer (some ⟨g9, 0, none⟩)) (.pointer (some ⟨g9, 0, none⟩)) (t_fa62_0 g9 0) _ rfl rfl) rfl ?_)
       | ((with_reducible refine gate_d (N := 34) rfl ?_); refine ag_fix (.agg (pv q'.1 q'.2.1 q'.2.2.1 q'.2.2.2.1)) (ex_load posT g9 0 E (pv q'.1 q'.2.1 q'.2.2.1 q'.2.2.2.1) BKe.out (by rw [HEE.out, rentC_size]; omega) (by rw [HEE.out]; exact rent_pos HQ'.out) _ rfl rfl) rfl ?_)
       | ((with_reducible refine gate_d (N := 35) rfl ?_); refine ag_fix (.agg (pv q.1 q.2.1 q.2.2.1 q.2.2.2.1)) (ex_load posT g4 0 (pv q.1 q.2.1 q.2.2.1 q.2.2.2.1) (pv q.1 q.2.1 q.2.2.1 q.2.2.2.1) BK5.out (pos_le HQ.out) (pos_all HQ.out) _ rfl rfl) rfl ?_)
       | ((with_reducible refine gate_d (N := 36) rfl ?_); refine ag_fix (.bool false) (ex_eq .eql 46 (.agg (pv q'.1 q'.2.1 q'.2.2.1 q'.2.2.2.1)) (.agg (pv q.1 q.2.1 q.2.2.1 q.2.2.2.1)) (.bool false) (fun x_ y_ w_ => guard_any (by kernel_rfl) _ x_ y_ w_) (fun w_ => (eqP q' q HQ'.out HQ.out w_).trans (by rw [show (decide (q'.1 = q.1) && ((q'.2.1 == q.2.1) && ((q'.2.2.1 == q.2.2.1) && (q'.2.2.2.1 == q.2.2.2.1)))) = false from HPB.out])) _ _ _ rfl rfl rfl) rfl ?_))
     (try simp only [Act.put, sI, sZ, sS])
     go_roundg K1
     case measure => omega
     case rel => exact ⟨_, j + 1, rfl, hid (by have := HJ.out; have := HJM.out; have := HLn.out; rw [k64 (by omega) (by omega)]; omega), hid (by have := HK2.out; omega), hid (by have := HJL.out; omega), hid (find_step HJL.out HNO.out (by rw [HAB.out, HPB.out]; rfl)), SO5, BK5, TB5, HL5⟩
    | true =>
     have HPB := hid hp_
     clear hp_
     by_cases e_ : q'.2.2.2.2 = q.2.2.2.2
     ·
      have ced : (q'.2.2.2.2 == q.2.2.2.2) = true := beq_iff_eq.mpr e_
      clear e_
      have HF : Hid (fndV L q = (at_ : Int)) := hid (by unfold fndV findZ_; rw [HLR.out, find_hit HJL.out HNO.out (by rw [HAB.out, HPB.out, ced]; rfl), HAT.out])
      have HC5 : Hid (w5.cell? (ad.add x8.toNat) = some (.int .i64 (at_ : Int))) := hid (by
       obtain ⟨ad2, c2, hv2_, hc2_⟩ := Sl.get (l := l.map Int.ofNat) (f := Value.int .i64) SO5.out.sl 0 (i := x8) HJ0.out (by rw [List.length_map]; exact HC.out)
       rw [HNT.out] at hc2_
       rw [List.length_map] at hv2_
       have h_ := hv2_.symm.trans HV.out
       injection h_ with h_; injection h_ with h_; subst h_; exact hc2_)
      go_wp2_with (first
        | ((with_reducible refine gate_d (N := 30) rfl ?_); refine ag_fix (.pointer (some ⟨g9, 69, none⟩)) (ex_field 62 3 (.pointer (some ⟨g9, 0, none⟩)) (.pointer (some ⟨g9, 69, none⟩)) (t_fa62_3 g9 0) _ rfl rfl) rfl ?_)
        | ((with_reducible refine gate_d (N := 31) rfl ?_); refine ag_fix (.bool true) (ex_get t_sT4 g9 69 (.bool true) E BKe.out (by rw [HEE.out]; exact rentC_cell _ _ _ 5 69 rfl) _ rfl rfl) rfl ?_)
        | ((with_reducible refine gate_d (N := 33) rfl ?_); refine ag_fix (.pointer (some ⟨g9, 0, none⟩)) (ex_field 62 0 (.pointer (some ⟨g9, 0, none⟩)) (.pointer (some ⟨g9, 0, none⟩)) (t_fa62_0 g9 0) _ rfl rfl) rfl ?_)
        | ((with_reducible refine gate_d (N := 34) rfl ?_); refine ag_fix (.agg (pv q'.1 q'.2.1 q'.2.2.1 q'.2.2.2.1)) (ex_load posT g9 0 E (pv q'.1 q'.2.1 q'.2.2.1 q'.2.2.2.1) BKe.out (by rw [HEE.out, rentC_size]; omega) (by rw [HEE.out]; exact rent_pos HQ'.out) _ rfl rfl) rfl ?_)
        | ((with_reducible refine gate_d (N := 35) rfl ?_); refine ag_fix (.agg (pv q.1 q.2.1 q.2.2.1 q.2.2.2.1)) (ex_load posT g4 0 (pv q.1 q.2.1 q.2.2.1 q.2.2.2.1) (pv q.1 q.2.1 q.2.2.1 q.2.2.2.1) BK5.out (pos_le HQ.out) (pos_all HQ.out) _ rfl rfl) rfl ?_)
        | ((with_reducible refine gate_d (N := 36) rfl ?_); refine ag_fix (.bool true) (ex_eq .eql 46 (.agg (pv q'.1 q'.2.1 q'.2.2.1 q'.2.2.2.1)) (.agg (pv q.1 q.2.1 q.2.2.1 q.2.2.2.1)) (.bool true) (fun x_ y_ w_ => guard_any (by kernel_rfl) _ x_ y_ w_) (fun w_ => (eqP q' q HQ'.out HQ.out w_).trans (by rw [show (decide (q'.1 = q.1) && ((q'.2.1 == q.2.1) && ((q'.2.2.1 == q.2.2.1) && (q'.2.2.2.1 == q.2.2.2.1)))) = true from HPB.out])) _ _ _ rfl rfl rfl) rfl ?_)
        | ((with_reducible refine gate_d (N := 39) rfl ?_); refine ag_fix (.pointer (some ⟨g9, 67, none⟩)) (ex_field 62 1 (.pointer (some ⟨g9, 0, none⟩)) (.pointer (some ⟨g9, 67, none⟩)) (t_fa62_1 g9 0) _ rfl rfl) rfl ?_)
        | ((with_reducible refine gate_d (N := 40) rfl ?_); refine ag_fix (.int .i64 q'.2.2.2.2) (ex_get t_sT3 g9 67 (.int .i64 q'.2.2.2.2) E BKe.out (by rw [HEE.out]; exact rentC_cell _ _ _ 3 67 rfl) _ rfl rfl) rfl ?_)
        | ((with_reducible refine gate_d (N := 46) rfl ?_); refine ag_fix (.pointer (some (ad.add x8.toNat))) (ex_sat _ _ x8 _ _ HV.out HJ0.out HC.out t_us27 t_sT3 _ _ rfl rfl rfl) rfl ?_)
        | ((with_reducible refine gate_d (N := 47) rfl ?_); refine ag_fix (.int .i64 (at_ : Int)) (ex_scell t_sT3 _ _ HC5.out _ rfl rfl) rfl ?_))
      (try simp only [Act.put, sI, sZ, sS])
      go_ret
      exact ⟨by rw [HF.out]; rfl, HL5.out⟩
     ·
      have ced : (q'.2.2.2.2 == q.2.2.2.2) = false := beq_eq_false_iff_ne.mpr e_
      clear e_
      go_wp2_with (first
        | ((with_reducible refine gate_d (N := 30) rfl ?_); refine ag_fix (.pointer (some ⟨g9, 69, none⟩)) (ex_field 62 3 (.pointer (some ⟨g9, 0, none⟩)) (.pointer (some ⟨g9, 69, none⟩)) (t_fa62_3 g9 0) _ rfl rfl) rfl ?_)
        | ((with_reducible refine gate_d (N := 31) rfl ?_); refine ag_fix (.bool true) (ex_get t_sT4 g9 69 (.bool true) E BKe.out (by rw [HEE.out]; exact rentC_cell _ _ _ 5 69 rfl) _ rfl rfl) rfl ?_)
        | ((with_reducible refine gate_d (N := 33) rfl ?_); refine ag_fix (.pointer (some ⟨g9, 0, none⟩)) (ex_field 62 0 (.pointer (some ⟨g9, 0, none⟩)) (.pointer (some ⟨g9, 0, none⟩)) (t_fa62_0 g9 0) _ rfl rfl) rfl ?_)
        | ((with_reducible refine gate_d (N := 34) rfl ?_); refine ag_fix (.agg (pv q'.1 q'.2.1 q'.2.2.1 q'.2.2.2.1)) (ex_load posT g9 0 E (pv q'.1 q'.2.1 q'.2.2.1 q'.2.2.2.1) BKe.out (by rw [HEE.out, rentC_size]; omega) (by rw [HEE.out]; exact rent_pos HQ'.out) _ rfl rfl) rfl ?_)
        | ((with_reducible refine gate_d (N := 35) rfl ?_); refine ag_fix (.agg (pv q.1 q.2.1 q.2.2.1 q.2.2.2.1)) (ex_load posT g4 0 (pv q.1 q.2.1 q.2.2.1 q.2.2.2.1) (pv q.1 q.2.1 q.2.2.1 q.2.2.2.1) BK5.out (pos_le HQ.out) (pos_all HQ.out) _ rfl rfl) rfl ?_)
        | ((with_reducible refine gate_d (N := 36) rfl ?_); refine ag_fix (.bool true) (ex_eq .eql 46 (.agg (pv q'.1 q'.2.1 q'.2.2.1 q'.2.2.2.1)) (.agg (pv q.1 q.2.1 q.2.2.1 q.2.2.2.1)) (.bool true) (fun x_ y_ w_ => guard_any (by kernel_rfl) _ x_ y_ w_) (fun w_ => (eqP q' q HQ'.out HQ.out w_).trans (by rw [show (decide (q'.1 = q.1) && ((q'.2.1 == q.2.1) && ((q'.2.2.1 == q.2.2.1) && (q'.2.2.2.1 == q.2.2.2.1)))) = true from HPB.out])) _ _ _ rfl rfl rfl) rfl ?_)
        | ((with_reducible refine gate_d (N := 39) rfl ?_); refine ag_fix (.pointer (some ⟨g9, 67, none⟩)) (ex_field 62 1 (.pointer (some ⟨g9, 0, none⟩)) (.pointer (some ⟨g9, 67, none⟩)) (t_fa62_1 g9 0) _ rfl rfl) rfl ?_)
        | ((with_reducible refine gate_d (N := 40) rfl ?_); refine ag_fix (.int .i64 q'.2.2.2.2) (ex_get t_sT3 g9 67 (.int .i64 q'.2.2.2.2) E BKe.out (by rw [HEE.out]; exact rentC_cell _ _ _ 3 67 rfl) _ rfl rfl) rfl ?_))
      (try simp only [Act.put, sI, sZ, sS])
      go_roundg K1
      case measure => omega
      case rel => exact ⟨_, j + 1, rfl, hid (by have := HJ.out; have := HJM.out; have := HLn.out; rw [k64 (by omega) (by omega)]; omega), hid (by have := HK2.out; omega), hid (by have := HJL.out; omega), hid (find_step HJL.out HNO.out (by rw [HAB.out, ced, Bool.and_false])), SO5, BK5, TB5, HL5⟩
  ·
   have cb : decide (x8 < (l.length : Int)) = false := decide_eq_false c
   have HC := hid c
   clear c
   have HF : Hid (fndV L q = -1) := hid (by unfold fndV findZ_; rw [HLR.out, find_none (by have := HJ.out; have := HC.out; omega) HNO.out])
   go_wp2_with (first
     | ((with_reducible refine gate_d (N := 16) rfl ?_); obtain ⟨A_, c_, hv_⟩ := SO.out.sl.shape; rw [List.length_map, List.length_map] at hv_; refine ag_fix (.int .i64 (l.length : Int)) (ex_len t_us27 _ _ _ _ hv_ _ rfl rfl) rfl ?_; clear hv_))
   (try simp only [Act.put, sI, sZ, sS])
   go_ret
   exact ⟨by rw [HF.out]; rfl, HL.out⟩
set_option maxHeartbeats 40000000 in
theorem rlen_calls {w : World} {L : Slots} {g a : Nat} (h : RBx w L g a) :
    Calls Try.prog 33 #[.pointer (some ⟨g, 0, none⟩)] w fun e w' => e = .returned (.int .i64 (lenZ L : Int)) ∧ w = w' := by
 have TB := hid h
 have HB := hid h.bd
 clear h
 obtain ⟨KK, hKK_⟩ : ∃ K, L.length + 1 = K := ⟨_, rfl⟩
 have HKK := hid hKK_
 clear hKK_
 go_enter Try.func33, Try.ntmps33
 go_wp2_with fail
 go_loopg [3, 4] KK (fun kq v3 v4 w' => ∃ (x4 : Int) (j : Nat), v3 = .int .i64 (lenZ (L.take j) : Int) ∧ v4 = .int .i64 x4 ∧ Hid (x4 = (j : Int)) ∧ Hid (kq + j = KK) ∧ Hid (j ≤ L.length) ∧ Hid (w = w'))
 case atStart => exact ⟨0, 0, (by first | rfl | (simp; done)), (by first | rfl | (simp; done)), hid rfl, hid (by omega), hid (by omega), hid rfl⟩
 case round =>
  obtain ⟨x4, j, rfl, rfl, HJ, HK2, HJM, HW⟩ := hrel
  obtain ⟨K1, rfl⟩ : ∃ K_, gk = K_ + 1 := ⟨gk - 1, by have := HK2.out; have := HJM.out; have := HKK.out; omega⟩
  have TBr := hid (show RBx wr L g a from HW.out ▸ TB.out)
  by_cases c : x4 < (L.length : Int)
  ·
   have cb : decide (x4 < (L.length : Int)) = true := decide_eq_true c
   have HC := hid c
   clear c
   have HJL : Hid (j < L.length) := hid (by have := HJ.out; have := HC.out; omega)
   have HLE : Hid (lenZ (L.take j) ≤ j) := hid (by have := lenZ_le (L.take j); rw [List.length_take] at this; omega)
   obtain ⟨m, hm_⟩ : ∃ m, lenZ (L.take j) = m := ⟨_, rfl⟩
   have HM := hid hm_
   rw [hm_]
   have HLM : Hid (m ≤ j) := hid (by rw [← hm_]; exact HLE.out)
   clear hm_ HLE
   have HIS : Hid (∀ b, (nt L j none).isSome = b → (rcells L)[j * 70 + 69]? = some (.bool b)) := hid (fun b hb => by rw [rc_is HJL.out, hb])
   cases hs_ : (nt L j none).isSome with
   | false =>
    have HI2 := hid (HIS.out _ hs_)
    have HS : Hid (lenZ (L.take (j + 1)) = m) := hid (by rw [lenZ_suc HJL.out, hs_, HM.out]; rfl)
    clear hs_ HIS
    go_wp2_with (first
      | ((with_reducible refine gate_d (N := 8) rfl ?_); refine ag_fix (.pointer (some ⟨g, 0, none⟩)) (ex_field 59 0 (.pointer (some ⟨g, 0, none⟩)) (.pointer (some ⟨g, 0, none⟩)) (t_fa59_0 g) _ rfl rfl) rfl ?_)
      | ((with_reducible refine gate_d (N := 9) rfl ?_); refine ag_fix (.slice (some ⟨a, 0, none⟩) L.length L.length) (ex_get t_sT57 g 0 (.slice (some ⟨a, 0, none⟩) L.length L.length) #[.slice (some ⟨a, 0, none⟩) L.length L.length] TBr.out.tab rfl _ rfl rfl) rfl ?_)
      | ((with_reducible refine gate_d (N := 10) rfl ?_); refine ag_fix (.int .i64 (L.length : Int)) (ex_len t_us57 _ _ _ _ rfl _ rfl rfl) rfl ?_)
      | ((with_reducible refine gate_d (N := 16) rfl ?_); refine ag_fix (.pointer (some ⟨g, 0, none⟩)) (ex_field 59 0 (.pointer (some ⟨g, 0, none⟩)) (.pointer (some ⟨g, 0, none⟩)) (t_fa59_0 g) _ rfl rfl) rfl ?_)
      | ((with_reducible refine gate_d (N := 17) rfl ?_); refine ag_fix (.slice (some ⟨a, 0, none⟩) L.length L.length) (ex_get t_sT57 g 0 (.slice (some ⟨a, 0, none⟩) L.length L.length) #[.slice (some ⟨a, 0, none⟩) L.length L.length] TBr.out.tab rfl _ rfl rfl) rfl ?_)
      | ((with_reducible refine gate_d (N := 19) rfl ?_); refine ag_fix (.pointer (some ⟨a, j * 70, none⟩)) (ex_satR a _ _ x4 j HJ.out HJL.out _ _ rfl rfl rfl) rfl ?_)
      | ((with_reducible refine gate_d (N := 20) rfl ?_); refine ag_fix (.pointer (some ⟨a, j * 70 + 69, none⟩)) (ex_field 62 3 (.pointer (some ⟨a, j * 70, none⟩)) (.pointer (some ⟨a, j * 70 + 69, none⟩)) (t_fa62_3 a (j * 70)) _ rfl rfl) rfl ?_)
      | ((with_reducible refine gate_d (N := 21) rfl ?_); refine ag_fix (.bool false) (ex_get t_sT4 a (j * 70 + 69) (.bool false) (rcells L) TBr.out.row HI2.out _ rfl rfl) rfl ?_))
    (try simp only [Act.put, sI, sZ, sS])
    go_roundg K1
    case measure => omega
    case rel => exact ⟨_, j + 1, by rw [HS.out], rfl, hid (by have := HJ.out; have := HJL.out; have := HB.out; rw [k64 (by omega) (by omega)]; omega), hid (by have := HK2.out; omega), hid (by have := HJL.out; omega), HW⟩
   | true =>
    have HI2 := hid (HIS.out _ hs_)
    have HS : Hid (lenZ (L.take (j + 1)) = m + 1) := hid (by rw [lenZ_suc HJL.out, hs_, HM.out]; rfl)
    clear hs_ HIS
    go_wp2_with (first
      | ((with_reducible refine gate_d (N := 8) rfl ?_); refine ag_fix (.pointer (some ⟨g, 0, none⟩)) (ex_field 59 0 (.pointer (some ⟨g, 0, none⟩)) (.pointer (some ⟨g, 0, none⟩)) (t_fa59_0 g) _ rfl rfl) rfl ?_)
      | ((with_reducible refine gate_d (N := 9) rfl ?_); refine ag_fix (.slice (some ⟨a, 0, none⟩) L.length L.length) (ex_get t_sT57 g 0 (.slice (some ⟨a, 0, none⟩) L.length L.length) #[.slice (some ⟨a, 0, none⟩) L.length L.length] TBr.out.tab rfl _ rfl rfl) rfl ?_)
      | ((with_reducible refine gate_d (N := 10) rfl ?_); refine ag_fix (.int .i64 (L.length : Int)) (ex_len t_us57 _ _ _ _ rfl _ rfl rfl) rfl ?_)
      | ((with_reducible refine gate_d (N := 16) rfl ?_); refine ag_fix (.pointer (some ⟨g, 0, none⟩)) (ex_field 59 0 (.pointer (some ⟨g, 0, none⟩)) (.pointer (some ⟨g, 0, none⟩)) (t_fa59_0 g) _ rfl rfl) rfl ?_)
      | ((with_reducible refine gate_d (N := 17) rfl ?_); refine ag_fix (.slice (some ⟨a, 0, none⟩) L.length L.length) (ex_get t_sT57 g 0 (.slice (some ⟨a, 0, none⟩) L.length L.length) #[.slice (some ⟨a, 0, none⟩) L.length L.length] TBr.out.tab rfl _ rfl rfl) rfl ?_)
      | ((with_reducible refine gate_d (N := 19) rfl ?_); refine ag_fix (.pointer (some ⟨a, j * 70, none⟩)) (ex_satR a _ _ x4 j HJ.out HJL.out _ _ rfl rfl rfl) rfl ?_)
      | ((with_reducible refine gate_d (N := 20) rfl ?_); refine ag_fix (.pointer (some ⟨a, j * 70 + 69, none⟩)) (ex_field 62 3 (.pointer (some ⟨a, j * 70, none⟩)) (.pointer (some ⟨a, j * 70 + 69, none⟩)) (t_fa62_3 a (j * 70)) _ rfl rfl) rfl ?_)
      | ((with_reducible refine gate_d (N := 21) rfl ?_); refine ag_fix (.bool true) (ex_get t_sT4 a (j * 70 + 69) (.bool true) (rcells L) TBr.out.row HI2.out _ rfl rfl) rfl ?_))
    (try simp only [Act.put, sI, sZ, sS])
    go_roundg K1
    case measure => omega
    case rel => exact ⟨_, j + 1, by rw [HS.out, k64 (by omega) (by have := HLM.out; have := HJL.out; have := HB.out; omega)]; rfl, rfl, hid (by have := HJ.out; have := HJL.out; have := HB.out; rw [k64 (by omega) (by omega)]; omega), hid (by have := HK2.out; omega), hid (by have := HJL.out; omega), HW⟩
  ·
   have cb : decide (x4 < (L.length : Int)) = false := decide_eq_false c
   have HC := hid c
   clear c
   have HE : Hid (lenZ (L.take j) = lenZ L) := hid (by rw [List.take_of_length_le (by have := HJ.out; have := HC.out; omega)])
   go_wp2_with (first
     | ((with_reducible refine gate_d (N := 8) rfl ?_); refine ag_fix (.pointer (some ⟨g, 0, none⟩)) (ex_field 59 0 (.pointer (some ⟨g, 0, none⟩)) (.pointer (some ⟨g, 0, none⟩)) (t_fa59_0 g) _ rfl rfl) rfl ?_)
     | ((with_reducible refine gate_d (N := 9) rfl ?_); refine ag_fix (.slice (some ⟨a, 0, none⟩) L.length L.length) (ex_get t_sT57 g 0 (.slice (some ⟨a, 0, none⟩) L.length L.length) #[.slice (some ⟨a, 0, none⟩) L.length L.length] TBr.out.tab rfl _ rfl rfl) rfl ?_)
     | ((with_reducible refine gate_d (N := 10) rfl ?_); refine ag_fix (.int .i64 (L.length : Int)) (ex_len t_us57 _ _ _ _ rfl _ rfl rfl) rfl ?_))
   (try simp only [Act.put, sI, sZ, sS])
   go_ret
   exact ⟨by rw [← HE.out]; rfl, HW.out⟩
end Go.Proofs.Ytpjocgebnodnoaa
