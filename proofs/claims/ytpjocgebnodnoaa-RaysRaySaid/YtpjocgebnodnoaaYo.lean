/- Rays: what a table tells of a man and a square: its rays, each in memory of its own. -/
import Derived.Test.YtpjocgebnodnoaaYm
namespace Go.Proofs.Ytpjocgebnodnoaa
open Go.RowKit
set_option linter.unusedVariables false
set_option linter.unusedSimpArgs false
set_option maxRecDepth 100000
theorem rays_ne {man s : Int} {j : Nat} (h : j < (raysZ man s).length) : 0 < (nt (raysZ man s) j []).length ∧ (nt (raysZ man s) j []).length ≤ 64 + (stepsM man) := by
  have e : nt (raysZ man s) j [] = (raysZ man s)[j] := by unfold nt; simp [List.getD, List.getElem?_eq_getElem h]
  have hm : (raysZ man s)[j] ∈ raysZ man s := List.getElem_mem h
  rw [e]
  revert hm
  generalize (raysZ man s)[j] = l
  intro hm
  unfold raysZ at hm
  split at hm
  · cases hm
  · obtain ⟨h1, h2⟩ := List.mem_filter.1 hm
    obtain ⟨x, _, rfl⟩ := List.mem_map.1 h1
    have := walkF_len x.1 x.2 (stepsM man) s
    refine ⟨?_, by omega⟩
    cases hw : walkF x.1 x.2 (stepsM man) s with
    | nil => rw [hw] at h2; cases h2
    | cons a b => simp
theorem rays_len {man s : Int} : (raysZ man s).length ≤ (stepsL man).length := by
  unfold raysZ
  split
  · simp
  · exact Nat.le_trans (List.length_filter_le _ _) (by rw [List.length_map]; exact Nat.le_refl _)
theorem steps_bd {man : Int} (h0 : -6 ≤ man) (h1 : man ≤ 6) : (stepsL man).length ≤ 8 ∧ stepsM man ≤ 64 := by
  have := steps_is ⟨(man + 6).toNat, by omega⟩
  rw [show (((⟨(man + 6).toNat, by omega⟩ : Fin 13).val : Int) - 6) = man by show ((man + 6).toNat : Int) - 6 = man; omega] at this
  exact this.2
theorem y_fz29 (b : Addr) (w : World) : (Instr.fieldAt 29 (.pointer (some b)) 0).run Try.prog w = .ok (.pointer (some b)) w := by kernel_rfl
def i_rays_Table_Of.f (k : Nat) (a0 : Bool) (a1 : Int) (a2 : Int) : Option (List (List Int)) := some (if a0 = true ∧ manB a1 = true ∧ 0 ≤ a2 ∧ a2 < 64 then raysZ a1 a2 else [])
def i_rays_Table_Of.post (r1 : List (List Int)) (w : World) (e : Ending) (w' : World) : Prop := ∃ (u_r1 : Value), e = .returned (u_r1) ∧ OwnS w' w.heap.size 29 3 (Value.int .i64) u_r1 r1 ∧ Below w.heap.size w w'
set_option maxHeartbeats 40000000 in
theorem of_calls (v0_ : Value) (a0 : Bool) (man sq : Int) (w : World) (hs0 : RTb w v0_ a0) : Calls Try.prog 15 #[v0_, .int .i64 man, .int .i64 sq] w (i_rays_Table_Of.post (if a0 = true ∧ manB man = true ∧ 0 ≤ sq ∧ sq < 64 then raysZ man sq else []) w) := by
 have HL := hid (Below.refl w.heap.size w)
 rcases hs0 with ⟨rfl, rfl⟩ | ⟨rfl, g, cs, rfl, hB_, hR_⟩
 ·
  rw [if_neg (by simp)]
  go_enter Try.func15, Try.ntmps15
  go_wp2_with fail
  go_ret
  exact ⟨_, rfl, OwnS.nil _ _ _ _ _, HL.out⟩
 ·
  have BKg := hid hB_
  have RS := hid hR_
  clear hB_ hR_
  have HMR := hid (qmRight man)
  cases hm_ : manB man with
  | false =>
   rw [if_neg (by simp)]
   have HM := hid hm_
   clear hm_
   go_enter Try.func15, Try.ntmps15
   have k1 := True.intro
   go_wp2_with (first
    | (go_at_call 52; clear k1; refine (i_men_Right.calls man false _ (by rw [HMR.out, HM.out])).mono ?_; rintro e_ w' ⟨rfl, rfl⟩))
   (try simp only [Act.put, sI, sZ, sS])
   go_ret
   exact ⟨_, rfl, OwnS.nil _ _ _ _ _, HL.out⟩
  | true =>
   have HM := hid hm_
   clear hm_
   have HSR : Hid (i_square_Right.f sq = some (decide (0 ≤ sq ∧ sq < 64))) := hid (by unfold i_square_Right.f; by_cases h : sq ≥ 0; rw [if_pos h]; congr 1; exact decide_eq_decide.mpr (by omega); rw [if_neg h]; congr 1; exact (decide_eq_false (by omega)).symm)
   by_cases c_ : 0 ≤ sq ∧ sq < 64
   ·
    rw [if_pos ⟨rfl, rfl, c_⟩]
    have HC := hid c_
    clear c_
    have HMB := hid (manB_bd HM.out)
    obtain ⟨s, hs_⟩ : ∃ s : Nat, sq = (s : Int) := ⟨sq.toNat, by have := HC.out; omega⟩
    obtain ⟨m, hm_⟩ : ∃ m : Nat, (man : Int) = (m : Int) - 6 := ⟨(man + 6).toNat, by have := HMB.out; omega⟩
    have HS := hid hs_
    have HX := hid hm_
    have HS64 : Hid (s < 64) := hid (by have := HC.out; omega)
    have HM13 : Hid (m < 13) := hid (by have := HMB.out; omega)
    have HM6 : Hid (wrap64 (man + 6) = (m : Int)) := hid (by have h_ := HM13.out; rw [q64 (by omega) (by omega)]; omega)
    obtain ⟨L, hL_⟩ : ∃ L, raysZ man sq = L := ⟨_, rfl⟩
    have HL8 : Hid (L.length ≤ 8) := hid (by rw [← hL_]; have h1_ := rays_len (man := man) (s := sq); have h2_ := steps_bd (man := man) (by have := HMB.out; omega) (by have := HMB.out; omega); omega)
    have HLN : Hid (∀ j, j < L.length → 0 < (nt L j []).length ∧ (nt L j []).length ≤ 128) := hid (by rw [← hL_]; intro j hj; have h1_ := rays_ne hj; have h2_ := steps_bd (man := man) (by have := HMB.out; omega) (by have := HMB.out; omega); exact ⟨h1_.1, by omega⟩)
    obtain ⟨y, hy_, hY_⟩ := RS.out (m * 64 + s) (by have := HS64.out; have := HM13.out; omega)
    rw [rz_at HS64.out, ← hm_, ← hs_, hL_] at hY_
    rw [hL_]
    have HYC := hid hy_
    have RY := hid hY_
    clear hL_ hy_ hY_ RS hs_ hm_
    go_enter Try.func15, Try.ntmps15
    have k1 := True.intro
    have k2 := True.intro
    go_wp2_with (first
     | (go_at_call 52; clear k1; refine (i_men_Right.calls man true _ (by rw [HMR.out, HM.out])).mono ?_; rintro e_ w' ⟨rfl, rfl⟩)
     | (go_at_call 53; clear k2; refine (i_square_Right.calls sq true _ (by rw [HSR.out, decide_eq_true HC.out])).mono ?_; rintro e_ w' ⟨rfl, rfl⟩)
     | ((with_reducible refine gate_d (N := 27) rfl ?_); refine ag_fix (.pointer (some ⟨g, 0, none⟩)) (ex_field 82 0 (.pointer (some ⟨g, 0, none⟩)) (.pointer (some ⟨g, 0, none⟩)) (y_fa82_0 g) _ rfl rfl) rfl ?_)
     | ((with_reducible refine gate_d (N := 28) rfl ?_); refine ag_fix (.pointer (some ⟨g, m * 64, none⟩)) (ex_at 80 (.pointer (some ⟨g, 0, none⟩)) (.int .i64 (wrap64 (man + 6))) (.pointer (some ⟨g, m * 64, none⟩)) (y_at80 g _ m HM6.out HM13.out) _ _ rfl rfl rfl) rfl ?_)
     | ((with_reducible refine gate_d (N := 29) rfl ?_); refine ag_fix (.pointer (some ⟨g, m * 64 + s, none⟩)) (ex_at 79 (.pointer (some ⟨g, m * 64, none⟩)) (.int .i64 sq) (.pointer (some ⟨g, m * 64 + s, none⟩)) (y_at79 g _ _ s HS.out HS64.out) _ _ rfl rfl rfl) rfl ?_)
     | ((with_reducible refine gate_d (N := 30) rfl ?_); refine ag_fix (y) (ex_get y_sT25 g (m * 64 + s) y cs BKg.out HYC.out _ rfl rfl) rfl ?_)
     | ((with_reducible refine gate_d (N := 31) rfl ?_); obtain ⟨A_, c_, hv_⟩ := RY.out.shape; refine ag_fix (.int .i64 (L.length : Int)) (ex_len y_us25 _ _ _ _ hv_ _ rfl rfl) rfl ?_; clear hv_))
    (try simp only [Act.put, sI, sZ, sS])
    clear BKg HYC HMR HSR
    go_loopg [7, 32] 9 (fun kq v7 v32 w' => ∃ (x32 : Int) (j : Nat), v32 = .int .i64 x32 ∧ Hid (x32 = (j : Int)) ∧ Hid (kq + j = 9) ∧ Hid (j ≤ L.length) ∧ Hid (OwnS w' w.heap.size 29 3 (Value.int .i64) v7 (L.take j)) ∧ Hid (Below w.heap.size w w'))
    case atStart => exact ⟨0, 0, (by first | rfl | (simp; done)), hid rfl, hid (by omega), hid (by omega), hid (OwnS.nil _ _ _ _ _), HL⟩
    case round =>
     clear HL
     obtain ⟨x32, j, rfl, HJ, HK, HJL, SO, HL⟩ := hrel
     obtain ⟨K1, rfl⟩ : ∃ K_, gk = K_ + 1 := ⟨gk - 1, by have := HK.out; have := HJL.out; have := HL8.out; omega⟩
     by_cases c : x32 < (L.length : Int)
     ·
      have cb : decide (x32 < (L.length : Int)) = true := decide_eq_true c
      have HC3 := hid c
      clear c
      have HJ0 : Hid (0 ≤ x32) := hid (by have := HJ.out; omega)
      have HLj := hid (HLN.out j (by have := HJ.out; have := HC3.out; omega))
      obtain ⟨l, hl_⟩ : ∃ l, nt L x32.toNat [] = l := ⟨_, rfl⟩
      have HLL : Hid (L.take (j + 1) = L.take j ++ [l]) := hid (by
        have h1_ := HJ.out; have h2_ := HC3.out
        rw [← hl_, List.take_add_one, List.getElem?_eq_getElem (show j < L.length by omega), show x32.toNat = j by omega]
        unfold nt; simp [List.getD, List.getElem?_eq_getElem (show j < L.length by omega)])
      have HLl : Hid (0 < l.length ∧ l.length ≤ 128) := hid (by have h1_ := HJ.out; rw [← hl_, show x32.toNat = j by omega]; exact HLj.out)
      obtain ⟨ad, c0, u, hv_, hc_, he_⟩ := SlS.get (RY.out.below HL.out) (i := x32) HJ0.out HC3.out
      rw [hl_] at he_
      have HV := hid hv_
      have HCE := hid hc_
      have HEu := hid he_
      clear hl_ hv_ hc_ he_ HLj
      have HJT : Hid ((L.take j).length ≤ 8) := hid (by rw [List.length_take]; have := HL8.out; omega)
      have k3 := True.intro
      have k4 := True.intro
      have k5 := True.intro
      have k6 := True.intro
      have k7 := True.intro
      go_wp2_with (first
       | ((with_reducible refine gate_d (N := 34) rfl ?_); refine ag_fix (.pointer (some (ad.add x32.toNat))) ((ex_satN _ _ x32 _ _ HV.out HJ0.out HC3.out y_us25 y_aT29.size _ _ rfl rfl rfl).trans (by rw [Nat.mul_one])) rfl ?_)
       | ((with_reducible refine gate_d (N := 35) rfl ?_); refine ag_fix (.agg #[u]) (ex_ldN y_aT29 _ [u] rfl (by intro j_ hj_; obtain rfl : j_ = 0 := (by omega); exact HCE.out) _ rfl rfl) rfl ?_)
       | ((with_reducible refine gate_d (N := 9) rfl ?_); clear k3; obtain ⟨gx, hgx⟩ : ∃ g_, wr.heap.size = g_ := ⟨_, rfl⟩; refine ag_alst y_aT29 #[u] gx hgx rfl (by intro v_ hv_; simp at hv_; subst hv_; exact HEu.out.one) rfl rfl 9 rfl _ _ rfl (fun _ => rfl) (fun _ => rfl) rfl ?_; intro w5 hb_ hB_ hs_; have HL5 := hid (HL.out.trans (hb_.mono (by rw [← hgx]; exact HL.out.size))); have SO5 := hid (SO.out.below (by rw [hgx]; exact hb_)); have HE5 := hid (HEu.out.below (by rw [hgx]; exact hb_)); have BKx := hid hB_; clear hb_ hB_ hs_ hgx SO HL HEu HCE)
       | ((with_reducible refine gate_d (N := 37) rfl ?_); clear k4; obtain ⟨g0, hg0⟩ : ∃ g_, w5.heap.size = g_ := ⟨_, rfl⟩; refine ag_litn (e := 3) 0 #[] g0 hg0 rfl _ rfl (fun w_ => by (try simp only [List.map_toArray, List.map_cons, List.map_nil]); kernel_rfl) ?_; intro w6 hb_ hB_ hs_; have HB6 := hid hb_; have BK0 := hid hB_; have BKx6 := hid (BKx.out.below hb_ (by rw [← hg0]; exact BKx.out.lt)); have HE6 := hid (HE5.out.below (by rw [hg0]; exact hb_)); have HG0 := hid hg0; have SZ6 : Hid (g0 ≤ w6.heap.size) := hid (by omega); clear hb_ hB_ hs_ hg0)
       | ((with_reducible refine gate_d (N := 38) rfl ?_); refine ag_fix (.pointer (some ⟨gx, 0, none⟩)) (ex_field 29 0 (.pointer (some ⟨gx, 0, none⟩)) (.pointer (some ⟨gx, 0, none⟩)) (y_fz29 _) _ rfl rfl) rfl ?_)
       | ((with_reducible refine gate_d (N := 39) rfl ?_); refine ag_fix (u) (ex_get y_sT27 gx 0 u #[u] BKx6.out rfl _ rfl rfl) rfl ?_)
       | ((with_reducible refine gate_d (N := 40) rfl ?_); clear k5; refine app_src y_eT27 g0 (.slice (some ⟨g0, 0, none⟩) 0 0) u [] (l.map (Value.int .i64)) (Own.of_blk (xs := []) (Nat.le_refl _) BK0.out (Nat.zero_le _) (Nat.zero_le _) rfl) HE6.out.sl (by rw [List.length_map]; exact HLl.out.1) (by intro u_ hu_; rw [List.mem_map] at hu_; obtain ⟨_, _, rfl⟩ := hu_; rfl) (by have h_ := HLl.out; simp only [List.length_map, List.length_nil]; omega) (by have h_ := HLl.out; simp only [List.length_map, List.length_nil]; unfold maxLen; omega) SZ6.out rfl _ _ rfl rfl rfl ?_; intro un w7 ho_ hb_ hk_ hi_; have HB7 : Hid (Below w5.heap.size w5 w7) := hid (by rw [HG0.out]; exact HB6.out.trans hb_); have HL7 := hid (HL5.out.trans (HB7.out.mono HL5.out.size)); have SO7 := hid (SO5.out.below HB7.out); have SN7 : Hid (SlT w7 3 un (l.map (Value.int .i64))) := hid (by rw [List.nil_append] at ho_; exact ho_.slT); clear ho_ hb_ hk_ hi_ HL5 SO5 HE5 HE6 HB6 BK0 BKx BKx6 HG0 SZ6 HB7)
       | ((with_reducible refine gate_d (N := 41) rfl ?_); refine ag_fix (.agg #[un]) (ex_build (.agg #[un]) _ rfl (by intro ww_; obtain ⟨A_, c_, h_⟩ := SN7.out.shape; subst h_; simp only [List.map_toArray, List.map_cons, List.map_nil]; kernel_rfl)) rfl ?_)
       | ((with_reducible refine gate_d (N := 42) rfl ?_); clear k6; obtain ⟨gl, hgl⟩ : ∃ g_, w7.heap.size = g_ := ⟨_, rfl⟩; refine ag_litA (e := 29) 1 #[un] gl hgl rfl _ rfl (fun w_ => by obtain ⟨A_, c_, h_⟩ := SN7.out.shape; subst h_; (try simp only [List.map_toArray, List.map_cons, List.map_nil]); kernel_rfl) ?_; intro w8 hb_ hB_ hs_; have HL8_ := hid (HL7.out.trans (hb_.mono (by rw [← hgl]; exact HL7.out.size))); have SO8 := hid (SO7.out.below (by rw [hgl]; exact hb_)); have SN8 := hid (SN7.out.below (by rw [hgl]; exact hb_)); have BKl := hid hB_; clear hb_ hB_ hs_ hgl HL7 SO7 SN7)
       | ((with_reducible refine gate_d (N := 43) rfl ?_); clear k7; refine app_sl y_eT25 w.heap.size _ (L.take j) l un gl 1 SO8.out (by decide) SN8.out BKl.out (by have h_ := HJT.out; omega) (by have h_ := HJT.out; unfold maxLen; omega) HL8_.out.size rfl _ _ rfl rfl rfl ?_; intro u9 w9 ho_ hb_ hk_ hi_; have SO9 : Hid (OwnS w9 w.heap.size 29 3 (Value.int .i64) u9 (L.take (j + 1))) := hid (by rw [HLL.out]; exact ho_); have HL9 := hid (HL8_.out.trans hb_); clear ho_ hb_ hk_ hi_ SO8 SN8 BKl HL8_))
      (try simp only [Act.put, sI, sZ, sS])
      go_roundg K1
      case measure => omega
      case rel => exact ⟨_, j + 1, rfl, hid (by have := HJ.out; have := HJL.out; have := HL8.out; rw [q64 (by omega) (by omega)]; omega), hid (by have := HK.out; omega), hid (by have := HJ.out; have := HC3.out; omega), SO9, HL9⟩
     ·
      have cb : decide (x32 < (L.length : Int)) = false := decide_eq_false c
      have HC3 := hid c
      clear c
      have SOe := hid (show OwnS wr w.heap.size 29 3 (Value.int .i64) _ L from by have h_ := SO.out; rw [List.take_of_length_le (by have := HJ.out; have := HC3.out; omega)] at h_; exact h_)
      go_wp2_with fail
      go_ret
      exact ⟨_, rfl, SOe.out, HL.out⟩
   ·
    rw [if_neg (fun h => c_ h.2.2)]
    have HC := hid c_
    clear c_
    go_enter Try.func15, Try.ntmps15
    have k1 := True.intro
    have k2 := True.intro
    go_wp2_with (first
     | (go_at_call 52; clear k1; refine (i_men_Right.calls man true _ (by rw [HMR.out, HM.out])).mono ?_; rintro e_ w' ⟨rfl, rfl⟩)
     | (go_at_call 53; clear k2; refine (i_square_Right.calls sq false _ (by rw [HSR.out, decide_eq_false HC.out])).mono ?_; rintro e_ w' ⟨rfl, rfl⟩))
    (try simp only [Act.put, sI, sZ, sS])
    go_ret
    exact ⟨_, rfl, OwnS.nil _ _ _ _ _, HL.out⟩
theorem i_rays_Table_Of.calls (k : Nat) (v0_ : Value) (a0 : Bool) (a1 a2 : Int) (r1 : List (List Int)) (w : World) (hs0 : RTb w v0_ a0) (h : i_rays_Table_Of.f k a0 a1 a2 = some r1) : Calls Try.prog 15 #[v0_, .int .i64 a1, .int .i64 a2] w (i_rays_Table_Of.post r1 w) := by
  obtain rfl := Option.some.inj h
  exact of_calls v0_ a0 a1 a2 w hs0
end Go.Proofs.Ytpjocgebnodnoaa
