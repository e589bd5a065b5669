/- Rays: the table is made, row by row. -/
import Derived.Test.YtpjocgebnodnoaaYl
import Derived.Test.YtpjocgebnodnoaaYj
namespace Go.Proofs.Ytpjocgebnodnoaa
open Go.RowKit
set_option linter.unusedVariables false
set_option linter.unusedSimpArgs false
set_option maxRecDepth 100000
/-- a table of rays: what its state tells is whether it is there. -/
def RTb (w : World) (u : Value) (b : Bool) : Prop := (b = false ∧ u = .pointer none) ∨ (b = true ∧ ∃ g cs, u = .pointer (some ⟨g, 0, none⟩) ∧ Blk w g 82 cs ∧ ∀ i, i < 832 → ∃ x, cs[i]? = some x ∧ SlS w 29 3 (Value.int .i64) x (rzN i))
theorem RTb.nil (w : World) : RTb w (.pointer none) false := .inl ⟨rfl, rfl⟩
theorem RTb.below {w w' : World} {u : Value} {b : Bool} (h : RTb w u b) (hb : Below w.heap.size w w') : RTb w' u b := by
  rcases h with h | ⟨h1, g, cs, h2, h3, h4⟩
  · exact .inl h
  · exact .inr ⟨h1, g, cs, h2, h3.below hb h3.lt, fun i hi => by obtain ⟨x, a, b⟩ := h4 i hi; exact ⟨x, a, b.below hb⟩⟩
theorem y_fa82_0 (g : Nat) (w : World) : (Instr.fieldAt 82 (.pointer (some ⟨g, 0, none⟩)) 0).run Try.prog w = .ok (.pointer (some ⟨g, 0, none⟩)) w := by kernel_rfl
theorem y_u80 : Try.prog.underlying 80 = some (.array 13 79) := by kernel_rfl
theorem y_u79 : Try.prog.underlying 79 = some (.array 64 25) := by kernel_rfl
theorem y_z79 (w : World) : (sizeOf 79).run Try.prog w = .ok 64 w := by kernel_rfl
theorem y_sT25 : ScT Try.prog 25 := ⟨fun w => by kernel_rfl, fun w => by kernel_rfl⟩
theorem y_at80 (g : Nat) (i : Int) (m : Nat) (h : i = m) (hm : m < 13) (w : World) : (Instr.indexAt 80 (.pointer (some ⟨g, 0, none⟩)) (.int .i64 i)).run Try.prog w = .ok (.pointer (some ⟨g, m * 64, none⟩)) w := by
  subst h
  simp [Instr.indexAt, asIntOf, run_underlying y_u80, hm, Instr.sureAddr, add_off, y_z79]
theorem y_at79 (g off : Nat) (i : Int) (s : Nat) (h : i = s) (hs : s < 64) (w : World) : (Instr.indexAt 79 (.pointer (some ⟨g, off, none⟩)) (.int .i64 i)).run Try.prog w = .ok (.pointer (some ⟨g, off + s, none⟩)) w := by
  subst h
  simp [Instr.indexAt, asIntOf, run_underlying y_u79, hs, Instr.sureAddr, add_off, y_sT25.size]
theorem y_us83 : Try.prog.underlying 83 = some (.slice 87) := by kernel_rfl
theorem y_us25 : Try.prog.underlying 25 = some (.slice 29) := by kernel_rfl
theorem y_aT87 : AggT Try.prog 87 2 #[.int .i64 0, .int .i64 0] := ⟨fun w => by kernel_rfl, fun w => by kernel_rfl, fun w => by kernel_rfl, rfl⟩
theorem y_eT25_info : (Try.prog.info? 29).map (fun i => (i.zero, i.size, i.bytes)) = some (some (.agg #[.slice none 0 0]), 1, 24) := by kernel_rfl
theorem y_eT25 : ElemT Try.prog 25 29 24 := ⟨by kernel_rfl, by
  obtain ⟨i, h1, h2, h3, h4⟩ := info_parts y_eT25_info
  exact ⟨i, _, h1, h2, h3, h4, rfl⟩⟩
def zT : Array Value := Array.replicate 833 (.slice none 0 0)
theorem zT_size : zT.size = 833 := Array.size_replicate
theorem zT_get {i : Nat} (h : i < 833) : zT[i]? = some (.slice none 0 0) := by unfold zT; rw [Array.getElem?_replicate, if_pos h]
theorem mk_start (w w1 : World) (g : Nat) (hb : Below w.heap.size w w1) (hg : w.heap.size ≤ g) (hB : Blk w1 g 82 zT) : MK rzN w w1 g 0 0 [] [] := by
  refine ⟨zT, .slice none 0 0, [], hb, hg, hB, zT_size, zT_get (by omega), Own.nil _ _ _, Nat.le_refl _, fun i hi => ?_, fun i x y k hi => absurd hi (by omega), fun q hq => (by cases hq), fun i x k hi hx hk => ?_⟩
  · exact ⟨_, zT_get (by omega), fun h => absurd h (by omega), fun _ => Rw.nil _ _ _, fun _ => rfl⟩
  · rw [zT_get (by omega)] at hx; injection hx with hx; subst hx; simp [Value.ownBlock] at hk
theorem mk_next {w w1 : World} {g d N : Nat} {P : List (List Int)} (h : MK rzN w w1 g d N P []) (hP : P = rzN d) : MK rzN w w1 g (d + 1) N [] [] := by
  obtain ⟨cs, v, all, h⟩ := h; exact ⟨cs, v, all, h.next hP⟩
theorem mk_mono {w w1 : World} {g d N N' : Nat} {P : List (List Int)} (h : MK rzN w w1 g d N P []) (hN : N ≤ N') : MK rzN w w1 g d N' P [] := by
  obtain ⟨cs, v, all, h⟩ := h; exact ⟨cs, v, all, h.mono hN⟩
theorem mk_go {w w1 w2 : World} {g d N : Nat} {P : List (List Int)} (h : MK rzN w w1 g d N P []) (hb : Below w1.heap.size w1 w2) : MK rzN w w2 g d N P [] := by
  obtain ⟨cs, v, all, h⟩ := h; exact ⟨cs, v, all, h.go hb⟩
theorem mk_below {w w1 : World} {g d N : Nat} {P : List (List Int)} (h : MK rzN w w1 g d N P []) : Below w.heap.size w w1 := by obtain ⟨cs, v, all, h⟩ := h; exact h.below
theorem mk_skip {w w1 : World} {g N m : Nat} (h : MK rzN w w1 g (m * 64) N [] []) (hm : (m : Int) - 6 = 0) : MK rzN w w1 g ((m + 1) * 64) N [] [] := by
  have : ∀ s, s ≤ 64 → MK rzN w w1 g (m * 64 + s) N [] [] := by
    intro s
    induction s with
    | zero => intro _; exact h
    | succ s ih =>
      intro hs
      exact mk_next (ih (by omega)) (show [] = rzN (m * 64 + s) by rw [rz_at (by omega), hm]; rfl)
  have h2 := this 64 (Nat.le_refl _)
  rw [show (m + 1) * 64 = m * 64 + 64 by omega]; exact h2
theorem mk_done {w w1 : World} {g N : Nat} (h : MK rzN w w1 g 832 N [] []) : RTb w1 (.pointer (some ⟨g, 0, none⟩)) true := by
  obtain ⟨cs, v, all, h⟩ := h
  exact .inr ⟨rfl, g, cs, rfl, h.blk, fun i hi => by obtain ⟨x, a, b, _⟩ := h.rows i hi; exact ⟨x, a, (b hi).slS⟩⟩
def i_rays_Make.f (k : Nat) : Option Bool := some true
def i_rays_Make.post (r1 : Bool) (w : World) (e : Ending) (w' : World) : Prop := ∃ (u_r1 : Value), e = .returned (u_r1) ∧ RTb w' u_r1 r1 ∧ Below w.heap.size w w'
theorem sl_one {w : World} {g : Nat} {t : TypeId} {u : Value} (hB : Blk w g t #[u]) : Sl w (.slice (some ⟨g, 0, none⟩) 1 1) [u] := by
  refine .inr ⟨⟨g, 0, none⟩, 1, rfl, Nat.le_refl _, by unfold maxLen; omega, fun i hi => ?_⟩
  obtain rfl : i = 0 := by simpa using hi
  rw [add_off, hB.cell]; rfl
theorem rayP_len (man s : Int) (j : Nat) : (rayP man s j).length ≤ j := by
  unfold rayP
  refine Nat.le_trans (List.length_filter_le _ _) ?_
  rw [List.length_map, List.length_take]; omega
set_option maxHeartbeats 40000000 in
theorem make_calls (w : World) : Calls Try.prog 14 #[] w (i_rays_Make.post true w) := by
 go_enter Try.func14, Try.ntmps14
 obtain ⟨g, hg⟩ : ∃ g_, w.heap.size = g_ := ⟨_, rfl⟩
 have k1 := True.intro
 go_wp2_with (first
  | ((with_reducible refine gate_d (N := 9) rfl ?_); refine ag_build (.agg zT) _ rfl rfl ?_ ?_; (intro ww_; kernel_rfl))
  | ((with_reducible refine gate_d (N := 10) rfl ?_); clear k1; refine ag_box zT g hg rfl _ rfl rfl ?_; intro w1 hb_ hB_ hs_; have M0 := hid (mk_start w w1 g (by rw [hg]; exact hb_) (by rw [hg]; exact Nat.le_refl _) hB_); clear hb_ hB_ hs_))
 (try simp only [Act.put, sI, sZ, sS])
 clear hg
 go_loopg [2] 14 (fun kq v2 w' => ∃ (x2 : Int) (m : Nat), v2 = .int .i64 x2 ∧ Hid (x2 = (m : Int) - 6) ∧ Hid (kq + m = 14) ∧ Hid (m ≤ 13) ∧ Hid (MK rzN w w' g (m * 64) (m * 32768) [] []))
 case atStart => exact ⟨-6, 0, (by first | rfl | (simp; done)), hid (by omega), hid (by omega), hid (by omega), M0⟩
 case round =>
  clear M0
  obtain ⟨x2, m, rfl, HX, HK, HM, M1⟩ := hrel
  obtain ⟨K1, rfl⟩ : ∃ K_, gk = K_ + 1 := ⟨gk - 1, by have := HK.out; have := HM.out; omega⟩
  by_cases c : x2 ≤ 6
  ·
   have cb : decide (x2 ≤ 6) = true := decide_eq_true c
   have HC := hid c
   clear c
   by_cases z : x2 = 0
   ·
    have zb : (x2 == 0) = true := beq_t z
    have HZ := hid z
    clear z
    go_wp2_with fail
    go_roundg K1
    case measure => omega
    case rel => exact ⟨_, m + 1, rfl, hid (by have := HX.out; have := HM.out; rw [q64 (by omega) (by omega)]; omega), hid (by have := HK.out; have := HC.out; have := HX.out; omega), hid (by have := HC.out; have := HX.out; omega), hid (mk_mono (mk_skip M1.out (by have := HX.out; have := HZ.out; omega)) (by omega))⟩
   ·
    have zb : (x2 == 0) = false := beq_f z
    have HZ := hid z
    clear z
    have HS := hid (steps_is ⟨m, by have := HC.out; have := HX.out; omega⟩)
    obtain ⟨L, hL⟩ : ∃ L, stepsL ((m : Int) - 6) = L := ⟨_, rfl⟩
    obtain ⟨M, hM⟩ : ∃ M, stepsM ((m : Int) - 6) = M := ⟨_, rfl⟩
    have HS1 : Hid (i_rays_steps.f x2 = some (L, (M : Int))) := hid (by rw [HX.out, ← hL, ← hM]; exact HS.out.1)
    have HS2 : Hid (L.length ≤ 8) := hid (by rw [← hL]; exact HS.out.2.1)
    have HS3 : Hid (M ≤ 64) := hid (by rw [← hM]; exact HS.out.2.2)
    have HLL := hid hL
    have HMM := hid hM
    clear hL hM HS
    have k2 := True.intro
    go_wp2_with (first
     | (go_at_call 49; clear k2; refine (i_rays_steps.calls x2 L (M : Int) _ HS1.out).mono ?_; rintro e_ w2 ⟨uL, rfl, so_, hb_⟩; have M2 := hid (mk_go M1.out hb_); have SWL : Hid (OwnN w2 0 87 2 uL L.length (L.flatMap en87)) := hid (so_.mono (Nat.zero_le _)); clear so_ hb_ M1))
    (try simp only [Act.put, sI, sZ, sS])
    go_loopg [22] 65 (fun kq v22 w' => ∃ (x22 : Int) (s : Nat), v22 = .int .i64 x22 ∧ Hid (x22 = (s : Int)) ∧ Hid (kq + s = 65) ∧ Hid (s ≤ 64) ∧ Hid (MK rzN w w' g (m * 64 + s) (m * 32768 + s * 512) [] []) ∧ Hid (OwnN w' 0 87 2 uL L.length (L.flatMap en87)))
    case atStart => exact ⟨0, 0, (by first | rfl | (simp; done)), hid rfl, hid (by omega), hid (by omega), hid (mk_mono M2.out (by omega)), SWL⟩
    case round =>
     clear M2 SWL
     obtain ⟨x22, s, rfl, HY, HK2, HM2, M3, SWL⟩ := hrel
     obtain ⟨K2, rfl⟩ : ∃ K_, gk = K_ + 1 := ⟨gk - 1, by have := HK2.out; have := HM2.out; omega⟩
     by_cases c : x22 < 64
     ·
      have cb2 : decide (x22 < 64) = true := decide_eq_true c
      have HC2 := hid c
      clear c
      have k3 := True.intro
      go_wp2_with (first
       | ((with_reducible refine gate_d (N := 26) rfl ?_); obtain ⟨A_, c_, hv_⟩ := SWL.out.shape; refine ag_fix (.int .i64 (L.length : Int)) (ex_len y_us83 _ _ _ _ hv_ _ rfl rfl) rfl ?_; clear hv_))
      (try simp only [Act.put, sI, sZ, sS])
      go_loopg [27] 9 (fun kq v27 w' => ∃ (x27 : Int) (j : Nat), v27 = .int .i64 x27 ∧ Hid (x27 = (j : Int)) ∧ Hid (kq + j = 9) ∧ Hid (j ≤ L.length) ∧ Hid (MK rzN w w' g (m * 64 + s) (m * 32768 + s * 512 + j * 64) (rayP x2 x22 j) []) ∧ Hid (OwnN w' 0 87 2 uL L.length (L.flatMap en87)))
      case atStart => exact ⟨0, 0, (by first | rfl | (simp; done)), hid rfl, hid (by omega), hid (by omega), hid (mk_mono M3.out (by omega)), SWL⟩
      case round =>
       clear M3 SWL
       obtain ⟨x27, j, rfl, HJ, HK3, HM3, M4, SWL⟩ := hrel
       obtain ⟨K3, rfl⟩ : ∃ K_, gk = K_ + 1 := ⟨gk - 1, by have := HK3.out; have := HM3.out; have := HS2.out; omega⟩
       by_cases c : x27 < (L.length : Int)
       ·
        have cb3 : decide (x27 < (L.length : Int)) = true := decide_eq_true c
        have HC3 := hid c
        clear c
        have HJ0 : Hid (0 ≤ x27) := hid (by have := HJ.out; omega)
        obtain ⟨l, hl⟩ : ∃ l, walkF (nt L x27.toNat (0, 0)).1 (nt L x27.toNat (0, 0)).2 M x22 = l := ⟨_, rfl⟩
        have HW : Hid (i_rays_walk.f 100 x22 (nt L x27.toNat (0, 0)).1 (nt L x27.toNat (0, 0)).2 (M : Int) = some l) := hid (by rw [← hl]; exact walk_is _ _ _ HS3.out (by have := HS3.out; omega))
        have HLE : Hid (l.length ≤ 64) := hid (by rw [← hl]; exact Nat.le_trans (walkF_len ..) HS3.out)
        have HPJ : Hid (rayP x2 x22 (j + 1) = rayP x2 x22 j ++ (if l = [] then [] else [l])) := hid (by
          have hj := HJ.out; have h3 := HC3.out
          have := rayP_suc (man := x2) (s := x22) (j := j) (by rw [HX.out, HLL.out]; omega)
          rw [this, ← hl, HX.out, HLL.out, HMM.out, show x27.toNat = j by omega])
        clear hl
        have k4 := True.intro
        have k5 := True.intro
        go_wp2_with (first
         | ((with_reducible refine gate_d (N := 29) rfl ?_); obtain ⟨ad, c_, hv_, hc_⟩ := SlN.get (l := L) (f := en87) en87_len SWL.out.sl (0, 0) (i := x27) HJ0.out HC3.out; have HCE := hid hc_; clear hc_; refine ag_fix (.pointer (some (ad.add (x27.toNat * 2)))) (ex_satN _ _ x27 _ _ hv_ HJ0.out HC3.out y_us83 y_aT87.size _ _ rfl rfl rfl) rfl ?_; clear hv_)
         | ((with_reducible refine gate_d (N := 30) rfl ?_); refine ag_fix (.agg #[.int .i64 (nt L x27.toNat (0, 0)).1, .int .i64 (nt L x27.toNat (0, 0)).2]) (ex_ldN y_aT87 _ (en87 (nt L x27.toNat (0, 0))) rfl HCE.out _ rfl rfl) rfl ?_)
         | ((with_reducible refine gate_d (N := 7) rfl ?_); clear k4; obtain ⟨gx, hgx⟩ : ∃ g_, wr.heap.size = g_ := ⟨_, rfl⟩; refine ag_alst y_aT87 #[.int .i64 (nt L x27.toNat (0, 0)).1, .int .i64 (nt L x27.toNat (0, 0)).2] gx hgx rfl (by intro v_ hv_; simp at hv_; rcases hv_ with rfl | rfl <;> rfl) rfl rfl 7 rfl _ _ rfl (fun _ => rfl) (fun _ => rfl) rfl ?_; intro w5 hb_ hB_ hs_; have M5 := hid (mk_go M4.out (by rw [hgx]; exact hb_)); have SW5 := hid (SWL.out.below (by rw [hgx]; exact hb_)); have BKx := hid hB_; clear hb_ hB_ hs_ hgx M4 SWL HCE)
         | ((with_reducible refine gate_d (N := 32) rfl ?_); refine ag_fix (.agg #[.int .i64 (nt L x27.toNat (0, 0)).1, .int .i64 (nt L x27.toNat (0, 0)).2]) (ex_load y_aT87 gx 0 #[.int .i64 (nt L x27.toNat (0, 0)).1, .int .i64 (nt L x27.toNat (0, 0)).2] #[.int .i64 (nt L x27.toNat (0, 0)).1, .int .i64 (nt L x27.toNat (0, 0)).2] BKx.out (by simp) rfl _ rfl rfl) rfl ?_)
         | (go_at_call 50; clear k5; refine (i_rays_walk.calls 100 x22 (nt L x27.toNat (0, 0)).1 (nt L x27.toNat (0, 0)).2 (M : Int) l _ HW.out).mono ?_; rintro e_ w6 ⟨ul, rfl, so_, hb_⟩; have M6 := hid (mk_go M5.out hb_); have SW6 := hid (SW5.out.below hb_); have SWl : Hid (Own w6 0 3 ul (l.map (Value.int .i64))) := hid (so_.mono (Nat.zero_le _)); clear so_ hb_ M5 SW5 BKx)
         | ((with_reducible refine gate_d (N := 36) rfl ?_); obtain ⟨A_, c_, hv_⟩ := SWl.out.sl.shape; rw [List.length_map] at hv_; refine ag_fix (.int .i64 (l.length : Int)) (ex_len y_us27 _ _ _ _ hv_ _ rfl rfl) rfl ?_; clear hv_))
        (try simp only [Act.put, sI, sZ, sS])
        ·
         rename_i hne_
         have HNE := hid hne_
         clear hne_
         have HM13 : Hid (m < 13) := hid (by have := HX.out; have := HC.out; omega)
         have HS64 : Hid (s < 64) := hid (by have := HY.out; have := HC2.out; omega)
         have HM6 : Hid (wrap64 (x2 + 6) = (m : Int)) := hid (by have := HX.out; have := HM.out; rw [q64 (by omega) (by omega)]; omega)
         have HD : Hid (m * 64 + s < 832) := hid (by have := HM13.out; have := HS64.out; omega)
         obtain ⟨cs, v, all, MX_⟩ := M6.out
         have MX6 := hid MX_
         obtain ⟨y, hy_, _⟩ := MX_.rows (m * 64 + s) HD.out
         have HYC := hid hy_
         clear hy_ MX_ M6
         have WR64 := i64_w
         refine sq_region (fun w'_ => ∃ cs_, Blk w'_ g 82 cs_ ∧ cs_[m * 64 + s]? = some y) [22] [(0, 2), (1, 2), (2, 2), (3, 2), (4, 2), (5, 2), (6, 2), (7, 2), (8, 2), (9, 2), (10, 2), (11, 2), (12, 1), (13, 2), (14, 2), (18, 2), (19, 2), (20, 2), (15, 0), (16, 0), (17, 0), (21, 2), (22, 0)] (by kernel_rfl) (by kernel_rfl) (by kernel_rfl) rfl ?_
         intro w7 hb_
         have MX7 := hid (MX6.out.go hb_)
         have SW7 := hid (SW6.out.below hb_)
         have SWk := hid (SWl.out.below hb_)
         clear hb_ MX6 SW6 SWl
         refine sq_pure (.pointer (some ⟨g, 0, none⟩)) rfl (fun w'_ => ex_mv (.tmp 1) (.inl rfl) _ rfl) rfl rfl ?_
         intro ts_ ht_; simp only [sI, sZ, sS] at ht_; subst ht_
         refine sq_pure (.int .i64 x2) rfl (fun w'_ => ex_mv (.tmp 2) (.inl rfl) _ rfl) rfl rfl ?_
         intro ts_ ht_; simp only [sI, sZ, sS] at ht_; subst ht_
         refine sq_pure (.int .i64 (wrap64 (x2 + 6))) rfl (fun w'_ => by go_simp <;> (unfold wrap64; omega)) rfl rfl ?_
         intro ts_ ht_; simp only [sI, sZ, sS] at ht_; subst ht_
         refine sq_pure (.int .i64 x22) rfl (fun w'_ => ex_mv (.tmp 5) (.inl rfl) _ rfl) rfl rfl ?_
         intro ts_ ht_; simp only [sI, sZ, sS] at ht_; subst ht_
         refine sq_pure (.pointer (some ⟨g, 0, none⟩)) rfl (fun w'_ => ex_mv (.tmp 1) (.inl rfl) _ rfl) rfl rfl ?_
         intro ts_ ht_; simp only [sI, sZ, sS] at ht_; subst ht_
         refine sq_pure (.int .i64 x2) rfl (fun w'_ => ex_mv (.tmp 2) (.inl rfl) _ rfl) rfl rfl ?_
         intro ts_ ht_; simp only [sI, sZ, sS] at ht_; subst ht_
         refine sq_pure (.int .i64 (wrap64 (x2 + 6))) rfl (fun w'_ => by go_simp <;> (unfold wrap64; omega)) rfl rfl ?_
         intro ts_ ht_; simp only [sI, sZ, sS] at ht_; subst ht_
         refine sq_pure (.int .i64 x22) rfl (fun w'_ => ex_mv (.tmp 5) (.inl rfl) _ rfl) rfl rfl ?_
         intro ts_ ht_; simp only [sI, sZ, sS] at ht_; subst ht_
         refine sq_pure (.pointer (some ⟨g, 0, none⟩)) rfl (fun w'_ => by go_simp) rfl rfl ?_
         intro ts_ ht_; simp only [sI, sZ, sS] at ht_; subst ht_
         refine sq_pure (.pointer (some ⟨g, 0, none⟩)) rfl (fun w'_ => ex_field 82 0 (.pointer (some ⟨g, 0, none⟩)) (.pointer (some ⟨g, 0, none⟩)) (y_fa82_0 g) _ rfl rfl) rfl rfl ?_
         intro ts_ ht_; simp only [sI, sZ, sS] at ht_; subst ht_
         refine sq_pure (.pointer (some ⟨g, m * 64, none⟩)) rfl (fun w'_ => ex_at 80 (.pointer (some ⟨g, 0, none⟩)) (.int .i64 (wrap64 (x2 + 6))) (.pointer (some ⟨g, m * 64, none⟩)) (y_at80 g _ m HM6.out HM13.out) _ _ rfl rfl rfl) rfl rfl ?_
         intro ts_ ht_; simp only [sI, sZ, sS] at ht_; subst ht_
         refine sq_pure (.pointer (some ⟨g, m * 64 + s, none⟩)) rfl (fun w'_ => ex_at 79 (.pointer (some ⟨g, m * 64, none⟩)) (.int .i64 x22) (.pointer (some ⟨g, m * 64 + s, none⟩)) (y_at79 g _ _ s HY.out HS64.out) _ _ rfl rfl rfl) rfl rfl ?_
         intro ts_ ht_; simp only [sI, sZ, sS] at ht_; subst ht_
         refine sq_take (y) ⟨cs, MX7.out.blk, HYC.out⟩ rfl (fun w'_ hS_ => by obtain ⟨cs_, h1_, h2_⟩ := hS_; exact ex_get y_sT25 g (m * 64 + s) y cs_ h1_ h2_ _ rfl rfl) rfl rfl ?_
         intro ts_ ht_; simp only [sI, sZ, sS] at ht_; subst ht_
         refine sq_pure (.pointer (some ⟨g, 0, none⟩)) rfl (fun w'_ => ex_mv (.tmp 1) (.inl rfl) _ rfl) rfl rfl ?_
         intro ts_ ht_; simp only [sI, sZ, sS] at ht_; subst ht_
         refine sq_pure (ul) rfl (fun w'_ => ex_mv (.tmp 8) (.inl rfl) _ rfl) rfl rfl ?_
         intro ts_ ht_; simp only [sI, sZ, sS] at ht_; subst ht_
         refine sq_pure (.pointer (some ⟨g, 0, none⟩)) rfl (fun w'_ => by go_simp) rfl rfl ?_
         intro ts_ ht_; simp only [sI, sZ, sS] at ht_; subst ht_
         refine sq_pure (.pointer (some ⟨g, 0, none⟩)) rfl (fun w'_ => ex_field 82 0 (.pointer (some ⟨g, 0, none⟩)) (.pointer (some ⟨g, 0, none⟩)) (y_fa82_0 g) _ rfl rfl) rfl rfl ?_
         intro ts_ ht_; simp only [sI, sZ, sS] at ht_; subst ht_
         refine sq_pure (.pointer (some ⟨g, m * 64, none⟩)) rfl (fun w'_ => ex_at 80 (.pointer (some ⟨g, 0, none⟩)) (.int .i64 (wrap64 (x2 + 6))) (.pointer (some ⟨g, m * 64, none⟩)) (y_at80 g _ m HM6.out HM13.out) _ _ rfl rfl rfl) rfl rfl ?_
         intro ts_ ht_; simp only [sI, sZ, sS] at ht_; subst ht_
         refine sq_act rfl (fun Q'_ hQ_ => ?_)
         refine wl_call 51 #[.pointer (some ⟨g, 0, none⟩), ul] (by go_simp) rfl ((lay_calls MX7.out HD.out y HYC ul l SWk.out.sl HNE.out (by have h1_ := HLE.out; have h2_ := HM13.out; have h3_ := HS64.out; have h4_ := HM3.out; have h5_ := HS2.out; omega)).mono ?_)
         rintro e_ w8 ⟨u, cs8, v8, all8, rfl, mk_, hy_, sz_, kp_⟩
         have MX8 := hid mk_
         have HY8 := hid hy_
         have SW8 : Hid (OwnN w8 0 87 2 uL L.length (L.flatMap en87)) := hid (SW7.out.move fun g_ c_ _ hh_ => kp_ g_ c_ hh_)
         clear mk_ hy_ sz_ kp_ MX7 SW7 SWk HYC
         refine ⟨_, rfl, ?_⟩
         refine hQ_ _ _ (fun _ => ⟨cs8, MX8.out.blk, HY8.out⟩) ?_
         clear hQ_ Q'_
         simp only [Act.put, sI, sZ, sS]
         refine sq_act rfl (fun Q'_ hQ_ => ?_)
         obtain ⟨gl, hgl⟩ : ∃ g_, w8.heap.size = g_ := ⟨_, rfl⟩
         refine ag_litA (e := 29) 1 #[u] gl hgl rfl _ rfl (fun w_ => by obtain ⟨A_, c_, h_⟩ : ∃ A_ c_, u = .slice A_ (l.map (Value.int .i64)).length c_ := (MX8.out.pcs (u, l) (List.mem_singleton.2 rfl)).slT.shape; subst h_; (try simp only [List.map_toArray, List.map_cons, List.map_nil]); kernel_rfl) ?_
         intro w9 hb_ hB_ hs_
         have MX9 := hid (MX8.out.go (by rw [hgl]; exact hb_))
         have SW9 := hid (SW8.out.below (by rw [hgl]; exact hb_))
         have BKl := hid hB_
         clear hb_ hB_ hs_ hgl MX8 SW8
         refine act_end ?_
         refine hQ_ _ _ (fun _ => ⟨cs8, MX9.out.blk, HY8.out⟩) ?_
         clear hQ_ Q'_
         simp only [Act.put, sI, sZ, sS]
         refine sq_act rfl (fun Q'_ hQ_ => ?_)
         obtain ⟨y2, hy2_, _, hP_, _⟩ := MX9.out.rows (m * 64 + s) HD.out
         obtain rfl : y2 = y := by have h_ := HY8.out; rw [hy2_] at h_; injection h_
         obtain ⟨us, ow_, hus_, hpu_⟩ := hP_ rfl
         have OW9 := hid ow_
         have HUS := hid hus_
         have HPU := hid hpu_
         have HUL : Hid (us.length ≤ 8) := hid (by rw [hus_]; have h1_ := rayP_len x2 x22 j; have h2_ := HM3.out; have h3_ := HS2.out; omega)
         clear ow_ hus_ hpu_ hP_ hy2_
         refine app_grew y_eT25 0 y2 (.slice (some ⟨gl, 0, none⟩) 1 1) us [u] OW9.out (sl_one BKl.out) (by simp) (by intro u_ hu_; obtain rfl := List.mem_singleton.1 hu_; exact (MX9.out.pcs (u_, l) (List.mem_singleton.2 rfl)).slT.one) (by have h_ := HUL.out; simp only [List.length_singleton]; omega) (by have h_ := HUL.out; simp only [List.length_singleton]; unfold maxLen; omega) (Nat.zero_le _) rfl _ _ rfl rfl rfl ?_
         intro y' w10 ho_ hg_
         have OW10 := hid ho_
         have GR := hid hg_
         have B10 := hid (grew_blk hg_ OW9.out MX9.out.blk (by decide))
         have SW10 : Hid (OwnN w10 0 87 2 uL L.length (L.flatMap en87)) := hid (SW9.out.move fun g_ c_ _ hh_ => grew_blk hg_ OW9.out hh_ (by decide))
         clear ho_ hg_ SW9 BKl
         refine act_end ?_
         refine hQ_ _ _ (fun _ => ⟨cs8, B10.out, HY8.out⟩) ?_
         clear hQ_ Q'_
         simp only [Act.put, sI, sZ, sS]
         refine sq_pure (.pointer (some ⟨g, m * 64 + s, none⟩)) rfl (fun w'_ => ex_at 79 (.pointer (some ⟨g, m * 64, none⟩)) (.int .i64 x22) (.pointer (some ⟨g, m * 64 + s, none⟩)) (y_at79 g _ _ s HY.out HS64.out) _ _ rfl rfl rfl) rfl rfl ?_
         intro ts_ ht_; simp only [sI, sZ, sS] at ht_; subst ht_
         refine sq_act rfl (fun Q'_ hQ_ => ?_)
         refine ag_set y_sT25 g (m * 64 + s) y' cs8 (cs8.setIfInBounds (m * 64 + s) y') B10.out (by have h_ := HD.out; rw [MX9.out.size]; omega) (by obtain ⟨A_, c_, h_⟩ := OW10.out.shape; rw [h_]; rfl) (by obtain ⟨A_, c_, h_⟩ := OW10.out.shape; rw [h_]; rfl) rfl rfl _ _ rfl rfl rfl ?_
         intro w11 ho_ hB_
         have M11 : Hid (MK rzN w w11 g (m * 64 + s) (m * 32768 + s * 512 + j * 64 + l.length) (rayP x2 x22 j ++ [l]) []) := hid ⟨_, _, _, MX9.out.put HD.out HY8.out (List.mem_singleton.2 rfl) HUS.out HPU.out OW10.out GR.out ho_ hB_⟩
         have SW11 : Hid (OwnN w11 0 87 2 uL L.length (L.flatMap en87)) := hid (SW10.out.off ho_ B10.out (by decide))
         clear ho_ hB_ MX9 SW10 OW10 GR OW9 B10 HUS HPU HUL HY8
         refine act_end ?_
         refine hQ_ _ _ (fun h_ => absurd h_ (by decide)) ?_
         clear hQ_ Q'_
         simp only [Act.put]
         refine sq_end ?_
         clear WR64
         go_wp2_with fail
         go_roundg K3
         case measure => omega
         case rel => exact ⟨_, j + 1, rfl, hid (by have := HJ.out; have := HM3.out; have := HS2.out; rw [q64 (by omega) (by omega)]; omega), hid (by have := HK3.out; omega), hid (by have := HJ.out; have := HC3.out; omega), hid (by rw [HPJ.out, if_neg (by intro h_; have h2_ := HNE.out; rw [h_] at h2_; cases h2_)]; exact mk_mono M11.out (by have := HLE.out; omega)), SW11⟩
        ·
         rename_i hne_
         have HNE := hid hne_
         clear hne_
         go_roundg K3
         case measure => omega
         case rel => exact ⟨_, j + 1, rfl, hid (by have := HJ.out; have := HM3.out; have := HS2.out; rw [q64 (by omega) (by omega)]; omega), hid (by have := HK3.out; omega), hid (by have := HJ.out; have := HC3.out; omega), hid (by rw [HPJ.out, if_pos (by have h_ := HNE.out; exact List.eq_nil_of_length_eq_zero (by omega)), List.append_nil]; exact mk_mono M6.out (by omega)), SW6⟩
       ·
        have cb3 : decide (x27 < (L.length : Int)) = false := decide_eq_false c
        have HC3 := hid c
        clear c
        go_wp2_with fail
        go_roundg K2
        case measure => omega
        case rel => exact ⟨_, s + 1, rfl, hid (by have := HY.out; have := HM2.out; rw [q64 (by omega) (by omega)]; omega), hid (by have := HK2.out; omega), hid (by have := HY.out; have := HC2.out; omega), hid (mk_mono (mk_next M4.out (by have h1_ := HJ.out; have h2_ := HC3.out; have h3_ := HM3.out; have h4_ := HX.out; have h5_ := HZ.out; have h6_ := HY.out; have h7_ := HC2.out; show rayP x2 x22 j = rzN (m * 64 + s); rw [rz_at (by omega), show j = L.length by omega, ← HLL.out, ← h4_, rayP_all h5_, h6_])) (by have := HM3.out; have := HS2.out; omega)), SWL⟩
     ·
      have cb2 : decide (x22 < 64) = false := decide_eq_false c
      have HC2 := hid c
      clear c
      go_wp2_with fail
      go_roundg K1
      case measure => omega
      case rel => exact ⟨_, m + 1, rfl, hid (by have := HX.out; have := HM.out; rw [q64 (by omega) (by omega)]; omega), hid (by have := HK.out; omega), hid (by have := HX.out; have := HC.out; omega), hid (by have h1_ := HY.out; have h2_ := HC2.out; have h3_ := HM2.out; have h4_ := M3.out; rw [show s = 64 by omega] at h4_; rw [show (m + 1) * 64 = m * 64 + 64 by omega]; exact mk_mono h4_ (by omega))⟩
  ·
   have cb : decide (x2 ≤ 6) = false := decide_eq_false c
   have HC := hid c
   clear c
   go_wp2_with fail
   go_ret
   exact ⟨_, rfl, mk_done (by have h1_ := HX.out; have h2_ := HC.out; have h3_ := HM.out; have h4_ := M1.out; rw [show m = 13 by omega] at h4_; exact h4_), mk_below M1.out⟩
theorem i_rays_Make.calls (k : Nat) (r1 : Bool) (w : World) (h : i_rays_Make.f k = some r1) : Calls Try.prog 14 #[] w (i_rays_Make.post r1 w) := by
  obtain rfl : true = r1 := Option.some.inj h
  exact make_calls w
end Go.Proofs.Ytpjocgebnodnoaa
