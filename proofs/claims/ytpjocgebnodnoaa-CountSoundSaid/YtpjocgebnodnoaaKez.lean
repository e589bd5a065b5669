import Derived.Test.YtpjocgebnodnoaaK0wz
import Derived.Deep.Cut
import Derived.Deep.CutRange
namespace Go.Proofs.Ytpjocgebnodnoaa
open Go.RowKit
set_option linter.unusedVariables false
set_option linter.unusedSimpArgs false
set_option maxRecDepth 100000
theorem kfa46_0 (g : Nat) (w : World) : (Instr.fieldAt 46 (.pointer (some ⟨g, 0, none⟩)) 0).run Try.prog w = .ok (.pointer (some ⟨g, 0, none⟩)) w := by kernel_rfl
theorem kfa46_2 (g : Nat) (w : World) : (Instr.fieldAt 46 (.pointer (some ⟨g, 0, none⟩)) 2).run Try.prog w = .ok (.pointer (some ⟨g, 65, none⟩)) w := by kernel_rfl
theorem kfa75_0 (g : Nat) (w : World) : (Instr.fieldAt 75 (.pointer (some ⟨g, 0, none⟩)) 0).run Try.prog w = .ok (.pointer (some ⟨g, 0, none⟩)) w := by kernel_rfl
theorem kfa75_1 (g : Nat) (w : World) : (Instr.fieldAt 75 (.pointer (some ⟨g, 0, none⟩)) 1).run Try.prog w = .ok (.pointer (some ⟨g, 1, none⟩)) w := by kernel_rfl
def rowV : Array Value := (#[.int .i64 1, .int .i64 4, .int .i64 6, .int .i64 2, .int .i64 4, .int .i64 2, .int .i64 4, .int .i64 60, .int .i64 62, .int .i64 8, .int .i64 60, .int .i64 58] : Array Value)
theorem m64 {x : Int} (h0 : -9223372036854775808 ≤ x) (h1 : x < 9223372036854775808) : wrap64 x = x := by unfold wrap64; omega
theorem pv_c2 {b : List Int} {t c e : Int} (h : b.length = 64) : (pv b t c e)[65]? = some (.int .i64 c) := (xv_cell (n := 64) h 1 65 rfl).trans rfl
def hasZ (c r : Int) : Bool := Int.tmod (wrap64 (Int.tdiv c r)) 2 == 1
theorem has_is {c r : Int} (h : r ≠ 0) : i_alfilref08_Has.f c r = some (hasZ c r) := by unfold i_alfilref08_Has.f hasZ; rw [if_neg h]
theorem k_sat {P : Program} {w : World} {o : Oper} {ev : Operand → Value} {t e : TypeId} (a n c : Nat) (i : Int) (h0 : 0 ≤ i) (h1 : i < (n : Int)) (hu : P.underlying t = some (.slice e)) (hz : ScT P e) (x y : Operand) (ho : o.op = .indexAddr t x y) (hx : ev x = .slice (some ⟨a, 0, none⟩) n c) (hy : ev y = .int .i64 i) :
    (execOp ev o).run P w = .ok (.value (.pointer (some ⟨a, i.toNat, none⟩))) w := by
  have := ex_sat (P := P) (w := w) (o := o) (ev := ev) (t := t) (e := e) n c i ⟨a, 0, none⟩ _ rfl h0 h1 hu hz x y ho hx hy
  rw [this, add_off, Nat.zero_add]
structure RgM (w0 w : World) (b : List Int) (t c e f o p : Int) (g2 g3 g8 : Nat) : Prop where
  hl : Below w0.heap.size w0 w
  k2 : Blk w g2 46 (pv b t c e)
  k3 : Blk w g3 75 #[.int .i64 f, .int .i64 o, .int .i64 p]
  k8 : Blk w g8 3 rowV
theorem RgM.go {w0 w w' : World} {b : List Int} {t c e f o p : Int} {g2 g3 g8 : Nat} (h : RgM w0 w b t c e f o p g2 g3 g8) (hb : Below w.heap.size w w') : RgM w0 w' b t c e f o p g2 g3 g8 :=
  ⟨h.hl.trans (hb.mono h.hl.size), h.k2.below hb h.k2.lt, h.k3.below hb h.k3.lt, h.k8.below hb h.k8.lt⟩
def rgV : Nat → Int | 0 => 1 | 1 => 2 | 2 => 4 | _ => 8
def rgF : Nat → Int | 0 => 4 | 1 => 4 | 2 => 60 | _ => 60
def rgO : Nat → Int | 0 => 6 | 1 => 2 | 2 => 62 | _ => 58
def rgK : Nat → Int | 0 => 6 | 1 => 6 | 2 => -6 | _ => -6
def clearZ (b : List Int) (r : Int) : Bool := (i_alfilref09_clear.f b r).getD false
theorem clear_is (b : List Int) (r : Int) : i_alfilref09_clear.f b r = some (clearZ b r) := by
  unfold clearZ i_alfilref09_clear.f; (repeat' split) <;> rfl
def rgJ (b : List Int) (c f o : Int) : Nat → Nat → Int
  | 0, _ => 0
  | n + 1, j => if hasZ c (rgV j) = true ∧ f = rgF j ∧ o = rgO j ∧ nt b f.toNat 0 = rgK j ∧ clearZ b (rgV j) = true then rgV j else rgJ b c f o n (j + 1)
def rowR : List Int := [1, 4, 6, 2, 4, 2, 4, 60, 62, 8, 60, 58]
theorem rowR_at {j : Nat} (h : j < 4) : nt rowR (3 * j) 0 = rgV j ∧ nt rowR (3 * j + 1) 0 = rgF j ∧ nt rowR (3 * j + 2) 0 = rgO j := by
  match j, h with
  | 0, _ => exact ⟨rfl, rfl, rfl⟩
  | 1, _ => exact ⟨rfl, rfl, rfl⟩
  | 2, _ => exact ⟨rfl, rfl, rfl⟩
  | 3, _ => exact ⟨rfl, rfl, rfl⟩
theorem row_at {x : Int} {j d : Nat} {v : Int} (hx : x = 3 * (j : Int) + (d : Int)) (hj : j < 4) (hd : d < 3) (hv : nt rowR (3 * j + d) 0 = v) : rowV[x.toNat]? = some (.int .i64 v) := by
  subst hx
  rw [show (3 * (j : Int) + (d : Int)).toNat = 3 * j + d by omega, ← hv]
  have : ∀ m, m < 12 → rowV[m]? = some (.int .i64 (nt rowR m 0)) := by
    intro m h
    match m, h with
    | 0, _ => rfl
    | 1, _ => rfl
    | 2, _ => rfl
    | 3, _ => rfl
    | 4, _ => rfl
    | 5, _ => rfl
    | 6, _ => rfl
    | 7, _ => rfl
    | 8, _ => rfl
    | 9, _ => rfl
    | 10, _ => rfl
    | 11, _ => rfl
  exact this (3 * j + d) (by omega)
def i_alfilref09_Right.f (k : Nat) (a0_0 : List Int) (a0_1 : Int) (a0_2 : Int) (a0_3 : Int) (a1_0 : Int) (a1_1 : Int) (a1_2 : Int) : Option Int := if 0 ≤ a1_0 ∧ a1_0 < 64 then some (rgJ a0_0 a0_2 a1_0 a1_1 4 0) else none
set_option maxHeartbeats 40000000 in
theorem right_calls {b : List Int} (t c e f o p : Int) (hb : b.length = 64) (hf0 : 0 ≤ f) (hf1 : f < 64) (w : World) : Calls Try.prog 85 #[.agg (pv b t c e), .agg #[.int .i64 f, .int .i64 o, .int .i64 p]] w fun e' w' => e' = .returned (.int .i64 (rgJ b c f o 4 0)) ∧ Below w.heap.size w w' := by
 have HL := hid (Below.refl w.heap.size w)
 have HB := hid hb
 have HF0 := hid hf0
 have HF1 := hid hf1
 clear hb hf0 hf1
 go_enter Try.func85, Try.ntmps85
 have k1 := True.intro
 have k2 := True.intro
 have k3 := True.intro
 go_wp2_with (first
   | ((with_reducible refine gate_d (N := 2) rfl ?_); clear k1; obtain ⟨g2, hg2⟩ : ∃ g_, w.heap.size = g_ := ⟨_, rfl⟩; refine ag_box (pv b t c e) g2 hg2 rfl _ rfl rfl ?_; intro w2 hb_ hB_ hs_; have HL2 := hid (HL.out.trans (hb_.mono (by rw [← hg2]; exact HL.out.size))); have BK2 := hid hB_; clear hb_ hB_ hs_ hg2 HL)
   | ((with_reducible refine gate_d (N := 3) rfl ?_); clear k2; obtain ⟨g3, hg3⟩ : ∃ g_, w2.heap.size = g_ := ⟨_, rfl⟩; refine ag_box #[.int .i64 f, .int .i64 o, .int .i64 p] g3 hg3 rfl _ rfl rfl ?_; intro w3 hb_ hB_ hs_; have HL3 := hid (HL2.out.trans (hb_.mono (by rw [← hg3]; exact HL2.out.size))); have NE : Hid (g2 < g3) := hid (by have := BK2.out.lt; omega); have BK23 := hid (BK2.out.below hb_ NE.out); have BK3 := hid hB_; clear hb_ hB_ hs_ hg3 HL2 BK2)
   | ((with_reducible refine gate_d (N := 8) rfl ?_); clear k3; obtain ⟨g8, hg8⟩ : ∃ g_, w3.heap.size = g_ := ⟨_, rfl⟩; refine ag_litA (e := 3) 12 (#[.int .i64 1, .int .i64 4, .int .i64 6, .int .i64 2, .int .i64 4, .int .i64 2, .int .i64 4, .int .i64 60, .int .i64 62, .int .i64 8, .int .i64 60, .int .i64 58] : Array Value) g8 hg8 rfl _ rfl (fun w_ => by (try simp only [List.map_toArray, List.map_cons, List.map_nil]); kernel_rfl) ?_; intro w4 hb_ hB_ hs_; have M : Hid (RgM w w4 b t c e f o p g2 g3 g8) := hid ⟨HL3.out.trans (hb_.mono (by rw [← hg8]; exact HL3.out.size)), BK23.out.below hb_ (by have := BK23.out.lt; omega), BK3.out.below hb_ (by have := BK3.out.lt; omega), hB_⟩; clear hb_ hB_ hs_ hg8 HL3 BK23 BK3 NE))
 (try simp only [Act.put, sI, sZ, sS])
 go_loopg [6] 5 (fun kq v6 w' => ∃ (x6 : Int) (j : Nat), v6 = .int .i64 x6 ∧ Hid (x6 = 3 * (j : Int)) ∧ Hid (kq + j = 5) ∧ Hid (j ≤ 4) ∧ Hid (rgJ b c f o 4 0 = rgJ b c f o (4 - j) j) ∧ Hid (RgM w w' b t c e f o p g2 g3 g8))
 case atStart => exact ⟨0, 0, (by first | rfl | (simp; done)), hid rfl, hid (by omega), hid (by omega), hid rfl, M⟩
 case round =>
  clear M
  obtain ⟨x6, j, rfl, HJ, HK2, HJM, HV, M⟩ := hrel
  obtain ⟨K1, rfl⟩ : ∃ K_, gk = K_ + 1 := ⟨gk - 1, by have := HK2.out; have := HJM.out; omega⟩
  by_cases q : x6 < 12
  case neg =>
   have qb : decide (x6 < 12) = false := decide_eq_false q
   have HZ : Hid (rgJ b c f o 4 0 = 0) := hid (by rw [HV.out, show 4 - j = 0 by have := HJ.out; have := HJM.out; omega]; rfl)
   clear q
   go_wp2_with fail
   go_ret
   exact ⟨by rw [HZ.out]; rfl, M.out.hl⟩
  have qb : decide (x6 < 12) = true := decide_eq_true q
  have HQ : Hid (j < 4 ∧ 0 ≤ x6 ∧ x6 < 12) := hid (by have := HJ.out; omega)
  clear q
  go_upto_if 14 with fail
  (try simp only [Act.put, sI, sZ, sS])
  go_cut [7] from 9 to 63 (fun s7 w' => s7 = .int .i8 (rgK j) ∧ Hid (RgM w w' b t c e f o p g2 g3 g8))
  case first =>
   by_cases z : x6 ≥ 6
   ·
    have zb : decide (x6 ≥ 6) = true := decide_eq_true z
    have zb' : decide (6 ≤ x6) = true := decide_eq_true z
    have HK : Hid (rgK j = -6) := hid (by have h1_ := HQ.out.1; have h2_ := HJ.out; match j, h1_, h2_ with | 2, _, _ => rfl | 3, _, _ => rfl | 0, _, _ => omega | 1, _, _ => omega)
    clear z
    first | rw [zb] | rw [zb']
    go_wp2_with fail
    go_meet
    case rel => exact ⟨by rw [HK.out], M⟩
   ·
    have zb : decide (x6 ≥ 6) = false := decide_eq_false z
    have zb' : decide (6 ≤ x6) = false := decide_eq_false z
    have HK : Hid (rgK j = 6) := hid (by have h1_ := HQ.out.1; have h2_ := HJ.out; match j, h1_, h2_ with | 0, _, _ => rfl | 1, _, _ => rfl | 2, _, _ => omega | 3, _, _ => omega)
    clear z
    first | rw [zb] | rw [zb']
    go_wp2_with fail
    go_meet
    case rel => exact ⟨by rw [HK.out], M⟩
  case rest =>
   obtain ⟨hs_, M2⟩ := hcut
   clear M
   subst hs_
   have RA := hid (rowR_at HQ.out.1)
   have HST : Hid (rgJ b c f o (4 - j) j = if hasZ c (rgV j) = true ∧ f = rgF j ∧ o = rgO j ∧ nt b f.toNat 0 = rgK j ∧ clearZ b (rgV j) = true then rgV j else rgJ b c f o (4 - (j + 1)) (j + 1)) := hid (by rw [show 4 - j = (4 - (j + 1)) + 1 by have := HQ.out; omega]; rfl)
   obtain ⟨rv, hrv_⟩ : ∃ x, rgV j = x := ⟨_, rfl⟩
   obtain ⟨rf, hrf_⟩ : ∃ x, rgF j = x := ⟨_, rfl⟩
   obtain ⟨ro, hro_⟩ : ∃ x, rgO j = x := ⟨_, rfl⟩
   obtain ⟨rk, hrk_⟩ : ∃ x, rgK j = x := ⟨_, rfl⟩
   rw [hrv_, hrf_, hro_, hrk_] at HST
   rw [hrv_, hrf_, hro_] at RA
   rw [hrk_]
   have HRV : Hid (rv ≠ 0) := hid (by rw [← hrv_]; have h_ := HQ.out.1; match j, h_ with | 0, _ => decide | 1, _ => decide | 2, _ => decide | 3, _ => decide)
   clear hrv_ hrf_ hro_ hrk_
   have R0 : Hid (rowV[x6.toNat]? = some (.int .i64 rv)) := hid (row_at (d := 0) (by have := HJ.out; omega) HQ.out.1 (by omega) RA.out.1)
   have R1 : Hid (rowV[(wrap64 (x6 + 1)).toNat]? = some (.int .i64 rf)) := hid (row_at (d := 1) (by rw [m64 (by have := HQ.out; omega) (by have := HQ.out; omega)]; have := HJ.out; omega) HQ.out.1 (by omega) RA.out.2.1)
   have R2 : Hid (rowV[(wrap64 (x6 + 2)).toNat]? = some (.int .i64 ro)) := hid (row_at (d := 2) (by rw [m64 (by have := HQ.out; omega) (by have := HQ.out; omega)]; have := HJ.out; omega) HQ.out.1 (by omega) RA.out.2.2)
   have B1 : Hid (0 ≤ wrap64 (x6 + 1) ∧ wrap64 (x6 + 1) < 12) := hid (by rw [m64 (by have := HQ.out; omega) (by have := HQ.out; omega)]; have := HQ.out; have := HJ.out; omega)
   have B2 : Hid (0 ≤ wrap64 (x6 + 2) ∧ wrap64 (x6 + 2) < 12) := hid (by rw [m64 (by have := HQ.out; omega) (by have := HQ.out; omega)]; have := HQ.out; have := HJ.out; omega)
   have HHS : Hid (i_alfilref08_Has.f c rv = some (hasZ c rv)) := hid (has_is HRV.out)
   have HCL : Hid (i_alfilref09_clear.f b rv = some (clearZ b rv)) := hid (clear_is b rv)
   obtain ⟨x1, hx1_⟩ : ∃ x, hasZ c rv = x := ⟨_, rfl⟩
   obtain ⟨x2, hx2_⟩ : ∃ x, (f == rf) = x := ⟨_, rfl⟩
   obtain ⟨x3, hx3_⟩ : ∃ x, (o == ro) = x := ⟨_, rfl⟩
   obtain ⟨x4, hx4_⟩ : ∃ x, (nt b f.toNat 0 == rk) = x := ⟨_, rfl⟩
   obtain ⟨x5, hx5_⟩ : ∃ x, clearZ b rv = x := ⟨_, rfl⟩
   have HST2 : Hid (rgJ b c f o (4 - j) j = if (x1 && (x2 && (x3 && (x4 && x5)))) = true then rv else rgJ b c f o (4 - (j + 1)) (j + 1)) := hid (by
    rw [HST.out, ← hx1_, ← hx2_, ← hx3_, ← hx4_, ← hx5_]
    simp only [Bool.and_eq_true, beq_iff_eq])
   rw [hx1_] at HHS
   rw [hx5_] at HCL
   have X2 := hid hx2_
   have X3 := hid hx3_
   have X4 := hid hx4_
   clear hx1_ hx2_ hx3_ hx4_ hx5_ HST
   have DN : Hid (wrap64 (x6 + 3) = 3 * ((j + 1 : Nat) : Int)) := hid (by rw [m64 (by have := HQ.out; omega) (by have := HQ.out; omega)]; have := HJ.out; omega)
   go_upto_region 8 with fail
   (try simp only [Act.put, sI, sZ, sS])
   go_cut [59] from 9 to 63 (fun s_ w' => s_ = .bool (x1 && (x2 && (x3 && (x4 && x5)))) ∧ Hid (RgM w w' b t c e f o p g2 g3 g8))
   case first =>
    have WR64 := i64_w
    have WR32 := i32_w
    have D_ : x1 = false ∨ (x1 = true ∧ x2 = false) ∨ (x1 = true ∧ x2 = true ∧ x3 = false) ∨ (x1 = true ∧ x2 = true ∧ x3 = true ∧ x4 = false) ∨ (x1 = true ∧ x2 = true ∧ x3 = true ∧ x4 = true ∧ x5 = false) ∨ (x1 = true ∧ x2 = true ∧ x3 = true ∧ x4 = true ∧ x5 = true) := by cases x1 <;> cases x2 <;> cases x3 <;> cases x4 <;> cases x5 <;> simp
    rcases D_ with rfl | ⟨rfl, rfl⟩ | ⟨rfl, rfl, rfl⟩ | ⟨rfl, rfl, rfl, rfl⟩ | ⟨rfl, rfl, rfl, rfl, rfl⟩ | ⟨rfl, rfl, rfl, rfl, rfl⟩
    ·
     refine up_regionW (by kernel_rfl) (by kernel_rfl) ?_
     refine q_do (.pointer (some ⟨g2, 65, none⟩)) (fun w'_ hc_ => ex_field 46 2 (.pointer (some ⟨g2, 0, none⟩)) (.pointer (some ⟨g2, 65, none⟩)) (kfa46_2 g2) _ rfl rfl) rfl rfl ?_
     intro ts_ ht_; simp only [sI, sZ, sS] at ht_; subst ht_
     refine q_do (.int .i64 c) (fun w'_ hc_ => by obtain ⟨n_, hn_⟩ := hc_; exact ex_get sT3 g2 65 (.int .i64 c) (pv b t c e) (by rw [hn_]; exact M2.out.k2.below n_.below M2.out.k2.lt) (pv_c2 HB.out) _ rfl rfl) rfl rfl ?_
     intro ts_ ht_; simp only [sI, sZ, sS] at ht_; subst ht_
     refine q_do (.slice (some ⟨g8, 0, none⟩) 12 12) (fun w'_ hc_ => ex_mv (.tmp 5) (.inl rfl) _ rfl) rfl rfl ?_
     intro ts_ ht_; simp only [sI, sZ, sS] at ht_; subst ht_
     refine q_do (.int .i64 x6) (fun w'_ hc_ => ex_mv (.tmp 6) (.inl rfl) _ rfl) rfl rfl ?_
     intro ts_ ht_; simp only [sI, sZ, sS] at ht_; subst ht_
     refine q_do (.pointer (some ⟨g8, (x6).toNat, none⟩)) (fun w'_ hc_ => k_sat g8 12 12 (x6) HQ.out.2.1 HQ.out.2.2 us27 sT3 _ _ rfl rfl rfl) rfl rfl ?_
     intro ts_ ht_; simp only [sI, sZ, sS] at ht_; subst ht_
     refine q_do (.int .i64 rv) (fun w'_ hc_ => by obtain ⟨n_, hn_⟩ := hc_; exact ex_get sT3 g8 (x6).toNat (.int .i64 rv) rowV (by rw [hn_]; exact M2.out.k8.below n_.below M2.out.k8.lt) R0.out _ rfl rfl) rfl rfl ?_
     intro ts_ ht_; simp only [sI, sZ, sS] at ht_; subst ht_
     refine q_call (.bool false) 86 #[.int .i64 c, .int .i64 rv] (fun w'_ => by go_simp) (fun w'_ hc_ => (i_alfilref08_Has.calls c rv _ _ HHS.out).mono fun e_ w2_ h_ => ⟨h_.1, up_same hc_ h_.2⟩) rfl rfl ?_
     intro ts_ ht_; simp only [sI, sZ, sS] at ht_; subst ht_
     refine q_do (.bool false) (fun w'_ hc_ => ex_mv (.tmp 21) (.inl rfl) _ rfl) rfl rfl ?_
     intro ts_ ht_; simp only [sI, sZ, sS] at ht_; subst ht_
     refine q_not 7 false rfl rfl rfl ?_
     intro ts_ ht_; simp only [sI, sZ, sS] at ht_; subst ht_
     refine q_not 7 false rfl rfl rfl ?_
     intro ts_ ht_; simp only [sI, sZ, sS] at ht_; subst ht_
     refine q_not 7 false rfl rfl rfl ?_
     intro ts_ ht_; simp only [sI, sZ, sS] at ht_; subst ht_
     refine q_not 7 false rfl rfl rfl ?_
     intro ts_ ht_; simp only [sI, sZ, sS] at ht_; subst ht_
     refine q_not 7 false rfl rfl rfl ?_
     intro ts_ ht_; simp only [sI, sZ, sS] at ht_; subst ht_
     refine q_not 7 false rfl rfl rfl ?_
     intro ts_ ht_; simp only [sI, sZ, sS] at ht_; subst ht_
     refine q_not 7 false rfl rfl rfl ?_
     intro ts_ ht_; simp only [sI, sZ, sS] at ht_; subst ht_
     refine q_not 7 false rfl rfl rfl ?_
     intro ts_ ht_; simp only [sI, sZ, sS] at ht_; subst ht_
     refine q_do (.bool false) (fun w'_ hc_ => by go_simp) rfl rfl ?_
     intro ts_ ht_; simp only [sI, sZ, sS] at ht_; subst ht_
     refine q_do (.bool false) (fun w'_ hc_ => by go_simp) rfl rfl ?_
     intro ts_ ht_; simp only [sI, sZ, sS] at ht_; subst ht_
     refine q_not 17 false rfl rfl rfl ?_
     intro ts_ ht_; simp only [sI, sZ, sS] at ht_; subst ht_
     refine q_not 17 false rfl rfl rfl ?_
     intro ts_ ht_; simp only [sI, sZ, sS] at ht_; subst ht_
     refine q_not 17 false rfl rfl rfl ?_
     intro ts_ ht_; simp only [sI, sZ, sS] at ht_; subst ht_
     refine q_not 17 false rfl rfl rfl ?_
     intro ts_ ht_; simp only [sI, sZ, sS] at ht_; subst ht_
     refine q_not 17 false rfl rfl rfl ?_
     intro ts_ ht_; simp only [sI, sZ, sS] at ht_; subst ht_
     refine q_not 17 false rfl rfl rfl ?_
     intro ts_ ht_; simp only [sI, sZ, sS] at ht_; subst ht_
     refine q_not 17 false rfl rfl rfl ?_
     intro ts_ ht_; simp only [sI, sZ, sS] at ht_; subst ht_
     refine q_not 17 false rfl rfl rfl ?_
     intro ts_ ht_; simp only [sI, sZ, sS] at ht_; subst ht_
     refine q_do (.bool false) (fun w'_ hc_ => by go_simp) rfl rfl ?_
     intro ts_ ht_; simp only [sI, sZ, sS] at ht_; subst ht_
     refine q_do (.bool false) (fun w'_ hc_ => by go_simp) rfl rfl ?_
     intro ts_ ht_; simp only [sI, sZ, sS] at ht_; subst ht_
     refine q_not 27 false rfl rfl rfl ?_
     intro ts_ ht_; simp only [sI, sZ, sS] at ht_; subst ht_
     refine q_not 27 false rfl rfl rfl ?_
     intro ts_ ht_; simp only [sI, sZ, sS] at ht_; subst ht_
     refine q_not 27 false rfl rfl rfl ?_
     intro ts_ ht_; simp only [sI, sZ, sS] at ht_; subst ht_
     refine q_not 27 false rfl rfl rfl ?_
     intro ts_ ht_; simp only [sI, sZ, sS] at ht_; subst ht_
     refine q_not 27 false rfl rfl rfl ?_
     intro ts_ ht_; simp only [sI, sZ, sS] at ht_; subst ht_
     refine q_not 27 false rfl rfl rfl ?_
     intro ts_ ht_; simp only [sI, sZ, sS] at ht_; subst ht_
     refine q_not 27 false rfl rfl rfl ?_
     intro ts_ ht_; simp only [sI, sZ, sS] at ht_; subst ht_
     refine q_do (.bool false) (fun w'_ hc_ => by go_simp) rfl rfl ?_
     intro ts_ ht_; simp only [sI, sZ, sS] at ht_; subst ht_
     refine q_do (.bool false) (fun w'_ hc_ => by go_simp) rfl rfl ?_
     intro ts_ ht_; simp only [sI, sZ, sS] at ht_; subst ht_
     refine q_not 36 false rfl rfl rfl ?_
     intro ts_ ht_; simp only [sI, sZ, sS] at ht_; subst ht_
     refine q_not 36 false rfl rfl rfl ?_
     intro ts_ ht_; simp only [sI, sZ, sS] at ht_; subst ht_
     refine q_not 36 false rfl rfl rfl ?_
     intro ts_ ht_; simp only [sI, sZ, sS] at ht_; subst ht_
     refine q_not 36 false rfl rfl rfl ?_
     intro ts_ ht_; simp only [sI, sZ, sS] at ht_; subst ht_
     refine q_not 36 false rfl rfl rfl ?_
     intro ts_ ht_; simp only [sI, sZ, sS] at ht_; subst ht_
     refine q_not 36 false rfl rfl rfl ?_
     intro ts_ ht_; simp only [sI, sZ, sS] at ht_; subst ht_
     refine q_not 36 false rfl rfl rfl ?_
     intro ts_ ht_; simp only [sI, sZ, sS] at ht_; subst ht_
     refine q_do (.bool false) (fun w'_ hc_ => by go_simp) rfl rfl ?_
     intro ts_ ht_; simp only [sI, sZ, sS] at ht_; subst ht_
     refine q_end ?_
     rintro w8_ ⟨n_, rfl⟩
     have M3 := hid (M2.out.go n_.below)
     generalize n_.world = w9 at *
     go_wp2_with fail
     go_meet
     case rel => exact ⟨rfl, M3⟩
    ·
     refine up_regionW (by kernel_rfl) (by kernel_rfl) ?_
     refine q_do (.pointer (some ⟨g2, 65, none⟩)) (fun w'_ hc_ => ex_field 46 2 (.pointer (some ⟨g2, 0, none⟩)) (.pointer (some ⟨g2, 65, none⟩)) (kfa46_2 g2) _ rfl rfl) rfl rfl ?_
     intro ts_ ht_; simp only [sI, sZ, sS] at ht_; subst ht_
     refine q_do (.int .i64 c) (fun w'_ hc_ => by obtain ⟨n_, hn_⟩ := hc_; exact ex_get sT3 g2 65 (.int .i64 c) (pv b t c e) (by rw [hn_]; exact M2.out.k2.below n_.below M2.out.k2.lt) (pv_c2 HB.out) _ rfl rfl) rfl rfl ?_
     intro ts_ ht_; simp only [sI, sZ, sS] at ht_; subst ht_
     refine q_do (.slice (some ⟨g8, 0, none⟩) 12 12) (fun w'_ hc_ => ex_mv (.tmp 5) (.inl rfl) _ rfl) rfl rfl ?_
     intro ts_ ht_; simp only [sI, sZ, sS] at ht_; subst ht_
     refine q_do (.int .i64 x6) (fun w'_ hc_ => ex_mv (.tmp 6) (.inl rfl) _ rfl) rfl rfl ?_
     intro ts_ ht_; simp only [sI, sZ, sS] at ht_; subst ht_
     refine q_do (.pointer (some ⟨g8, (x6).toNat, none⟩)) (fun w'_ hc_ => k_sat g8 12 12 (x6) HQ.out.2.1 HQ.out.2.2 us27 sT3 _ _ rfl rfl rfl) rfl rfl ?_
     intro ts_ ht_; simp only [sI, sZ, sS] at ht_; subst ht_
     refine q_do (.int .i64 rv) (fun w'_ hc_ => by obtain ⟨n_, hn_⟩ := hc_; exact ex_get sT3 g8 (x6).toNat (.int .i64 rv) rowV (by rw [hn_]; exact M2.out.k8.below n_.below M2.out.k8.lt) R0.out _ rfl rfl) rfl rfl ?_
     intro ts_ ht_; simp only [sI, sZ, sS] at ht_; subst ht_
     refine q_call (.bool true) 86 #[.int .i64 c, .int .i64 rv] (fun w'_ => by go_simp) (fun w'_ hc_ => (i_alfilref08_Has.calls c rv _ _ HHS.out).mono fun e_ w2_ h_ => ⟨h_.1, up_same hc_ h_.2⟩) rfl rfl ?_
     intro ts_ ht_; simp only [sI, sZ, sS] at ht_; subst ht_
     refine q_do (.bool true) (fun w'_ hc_ => ex_mv (.tmp 21) (.inl rfl) _ rfl) rfl rfl ?_
     intro ts_ ht_; simp only [sI, sZ, sS] at ht_; subst ht_
     refine q_do (.pointer (some ⟨g3, 0, none⟩)) (fun w'_ hc_ => ex_field 75 0 (.pointer (some ⟨g3, 0, none⟩)) (.pointer (some ⟨g3, 0, none⟩)) (kfa75_0 g3) _ rfl rfl) rfl rfl ?_
     intro ts_ ht_; simp only [sI, sZ, sS] at ht_; subst ht_
     refine q_do (.int .i64 f) (fun w'_ hc_ => by obtain ⟨n_, hn_⟩ := hc_; exact ex_get sT3 g3 0 (.int .i64 f) (#[.int .i64 f, .int .i64 o, .int .i64 p]) (by rw [hn_]; exact M2.out.k3.below n_.below M2.out.k3.lt) rfl _ rfl rfl) rfl rfl ?_
     intro ts_ ht_; simp only [sI, sZ, sS] at ht_; subst ht_
     refine q_do (.slice (some ⟨g8, 0, none⟩) 12 12) (fun w'_ hc_ => ex_mv (.tmp 5) (.inl rfl) _ rfl) rfl rfl ?_
     intro ts_ ht_; simp only [sI, sZ, sS] at ht_; subst ht_
     refine q_do (.int .i64 x6) (fun w'_ hc_ => ex_mv (.tmp 6) (.inl rfl) _ rfl) rfl rfl ?_
     intro ts_ ht_; simp only [sI, sZ, sS] at ht_; subst ht_
     refine q_do (.int .i64 (wrap64 (x6 + 1))) (fun w'_ hc_ => by go_simp) rfl rfl ?_
     intro ts_ ht_; simp only [sI, sZ, sS] at ht_; subst ht_
     refine q_do (.pointer (some ⟨g8, (wrap64 (x6 + 1)).toNat, none⟩)) (fun w'_ hc_ => k_sat g8 12 12 (wrap64 (x6 + 1)) B1.out.1 B1.out.2 us27 sT3 _ _ rfl rfl rfl) rfl rfl ?_
     intro ts_ ht_; simp only [sI, sZ, sS] at ht_; subst ht_
     refine q_do (.int .i64 rf) (fun w'_ hc_ => by obtain ⟨n_, hn_⟩ := hc_; exact ex_get sT3 g8 (wrap64 (x6 + 1)).toNat (.int .i64 rf) rowV (by rw [hn_]; exact M2.out.k8.below n_.below M2.out.k8.lt) R1.out _ rfl rfl) rfl rfl ?_
     intro ts_ ht_; simp only [sI, sZ, sS] at ht_; subst ht_
     refine q_do (.bool false) (fun w'_ hc_ => (show _ from by have h_ := X2.out; go_simp <;> (first | exact h_ | (simpa using h_)))) rfl rfl ?_
     intro ts_ ht_; simp only [sI, sZ, sS] at ht_; subst ht_
     refine q_do (.bool false) (fun w'_ hc_ => by go_simp) rfl rfl ?_
     intro ts_ ht_; simp only [sI, sZ, sS] at ht_; subst ht_
     refine q_do (.bool false) (fun w'_ hc_ => by go_simp) rfl rfl ?_
     intro ts_ ht_; simp only [sI, sZ, sS] at ht_; subst ht_
     refine q_not 17 false rfl rfl rfl ?_
     intro ts_ ht_; simp only [sI, sZ, sS] at ht_; subst ht_
     refine q_not 17 false rfl rfl rfl ?_
     intro ts_ ht_; simp only [sI, sZ, sS] at ht_; subst ht_
     refine q_not 17 false rfl rfl rfl ?_
     intro ts_ ht_; simp only [sI, sZ, sS] at ht_; subst ht_
     refine q_not 17 false rfl rfl rfl ?_
     intro ts_ ht_; simp only [sI, sZ, sS] at ht_; subst ht_
     refine q_not 17 false rfl rfl rfl ?_
     intro ts_ ht_; simp only [sI, sZ, sS] at ht_; subst ht_
     refine q_not 17 false rfl rfl rfl ?_
     intro ts_ ht_; simp only [sI, sZ, sS] at ht_; subst ht_
     refine q_not 17 false rfl rfl rfl ?_
     intro ts_ ht_; simp only [sI, sZ, sS] at ht_; subst ht_
     refine q_not 17 false rfl rfl rfl ?_
     intro ts_ ht_; simp only [sI, sZ, sS] at ht_; subst ht_
     refine q_do (.bool false) (fun w'_ hc_ => by go_simp) rfl rfl ?_
     intro ts_ ht_; simp only [sI, sZ, sS] at ht_; subst ht_
     refine q_do (.bool false) (fun w'_ hc_ => by go_simp) rfl rfl ?_
     intro ts_ ht_; simp only [sI, sZ, sS] at ht_; subst ht_
     refine q_not 27 false rfl rfl rfl ?_
     intro ts_ ht_; simp only [sI, sZ, sS] at ht_; subst ht_
     refine q_not 27 false rfl rfl rfl ?_
     intro ts_ ht_; simp only [sI, sZ, sS] at ht_; subst ht_
     refine q_not 27 false rfl rfl rfl ?_
     intro ts_ ht_; simp only [sI, sZ, sS] at ht_; subst ht_
     refine q_not 27 false rfl rfl rfl ?_
     intro ts_ ht_; simp only [sI, sZ, sS] at ht_; subst ht_
     refine q_not 27 false rfl rfl rfl ?_
     intro ts_ ht_; simp only [sI, sZ, sS] at ht_; subst ht_
     refine q_not 27 false rfl rfl rfl ?_
     intro ts_ ht_; simp only [sI, sZ, sS] at ht_; subst ht_
     refine q_not 27 false rfl rfl rfl ?_
     intro ts_ ht_; simp only [sI, sZ, sS] at ht_; subst ht_
     refine q_do (.bool false) (fun w'_ hc_ => by go_simp) rfl rfl ?_
     intro ts_ ht_; simp only [sI, sZ, sS] at ht_; subst ht_
     refine q_do (.bool false) (fun w'_ hc_ => by go_simp) rfl rfl ?_
     intro ts_ ht_; simp only [sI, sZ, sS] at ht_; subst ht_
     refine q_not 36 false rfl rfl rfl ?_
     intro ts_ ht_; simp only [sI, sZ, sS] at ht_; subst ht_
     refine q_not 36 false rfl rfl rfl ?_
     intro ts_ ht_; simp only [sI, sZ, sS] at ht_; subst ht_
     refine q_not 36 false rfl rfl rfl ?_
     intro ts_ ht_; simp only [sI, sZ, sS] at ht_; subst ht_
     refine q_not 36 false rfl rfl rfl ?_
     intro ts_ ht_; simp only [sI, sZ, sS] at ht_; subst ht_
     refine q_not 36 false rfl rfl rfl ?_
     intro ts_ ht_; simp only [sI, sZ, sS] at ht_; subst ht_
     refine q_not 36 false rfl rfl rfl ?_
     intro ts_ ht_; simp only [sI, sZ, sS] at ht_; subst ht_
     refine q_not 36 false rfl rfl rfl ?_
     intro ts_ ht_; simp only [sI, sZ, sS] at ht_; subst ht_
     refine q_do (.bool false) (fun w'_ hc_ => by go_simp) rfl rfl ?_
     intro ts_ ht_; simp only [sI, sZ, sS] at ht_; subst ht_
     refine q_end ?_
     rintro w8_ ⟨n_, rfl⟩
     have M3 := hid (M2.out.go n_.below)
     generalize n_.world = w9 at *
     go_wp2_with fail
     go_meet
     case rel => exact ⟨rfl, M3⟩
    ·
     refine up_regionW (by kernel_rfl) (by kernel_rfl) ?_
     refine q_do (.pointer (some ⟨g2, 65, none⟩)) (fun w'_ hc_ => ex_field 46 2 (.pointer (some ⟨g2, 0, none⟩)) (.pointer (some ⟨g2, 65, none⟩)) (kfa46_2 g2) _ rfl rfl) rfl rfl ?_
     intro ts_ ht_; simp only [sI, sZ, sS] at ht_; subst ht_
     refine q_do (.int .i64 c) (fun w'_ hc_ => by obtain ⟨n_, hn_⟩ := hc_; exact ex_get sT3 g2 65 (.int .i64 c) (pv b t c e) (by rw [hn_]; exact M2.out.k2.below n_.below M2.out.k2.lt) (pv_c2 HB.out) _ rfl rfl) rfl rfl ?_
     intro ts_ ht_; simp only [sI, sZ, sS] at ht_; subst ht_
     refine q_do (.slice (some ⟨g8, 0, none⟩) 12 12) (fun w'_ hc_ => ex_mv (.tmp 5) (.inl rfl) _ rfl) rfl rfl ?_
     intro ts_ ht_; simp only [sI, sZ, sS] at ht_; subst ht_
     refine q_do (.int .i64 x6) (fun w'_ hc_ => ex_mv (.tmp 6) (.inl rfl) _ rfl) rfl rfl ?_
     intro ts_ ht_; simp only [sI, sZ, sS] at ht_; subst ht_
     refine q_do (.pointer (some ⟨g8, (x6).toNat, none⟩)) (fun w'_ hc_ => k_sat g8 12 12 (x6) HQ.out.2.1 HQ.out.2.2 us27 sT3 _ _ rfl rfl rfl) rfl rfl ?_
     intro ts_ ht_; simp only [sI, sZ, sS] at ht_; subst ht_
     refine q_do (.int .i64 rv) (fun w'_ hc_ => by obtain ⟨n_, hn_⟩ := hc_; exact ex_get sT3 g8 (x6).toNat (.int .i64 rv) rowV (by rw [hn_]; exact M2.out.k8.below n_.below M2.out.k8.lt) R0.out _ rfl rfl) rfl rfl ?_
     intro ts_ ht_; simp only [sI, sZ, sS] at ht_; subst ht_
     refine q_call (.bool true) 86 #[.int .i64 c, .int .i64 rv] (fun w'_ => by go_simp) (fun w'_ hc_ => (i_alfilref08_Has.calls c rv _ _ HHS.out).mono fun e_ w2_ h_ => ⟨h_.1, up_same hc_ h_.2⟩) rfl rfl ?_
     intro ts_ ht_; simp only [sI, sZ, sS] at ht_; subst ht_
     refine q_do (.bool true) (fun w'_ hc_ => ex_mv (.tmp 21) (.inl rfl) _ rfl) rfl rfl ?_
     intro ts_ ht_; simp only [sI, sZ, sS] at ht_; subst ht_
     refine q_do (.pointer (some ⟨g3, 0, none⟩)) (fun w'_ hc_ => ex_field 75 0 (.pointer (some ⟨g3, 0, none⟩)) (.pointer (some ⟨g3, 0, none⟩)) (kfa75_0 g3) _ rfl rfl) rfl rfl ?_
     intro ts_ ht_; simp only [sI, sZ, sS] at ht_; subst ht_
     refine q_do (.int .i64 f) (fun w'_ hc_ => by obtain ⟨n_, hn_⟩ := hc_; exact ex_get sT3 g3 0 (.int .i64 f) (#[.int .i64 f, .int .i64 o, .int .i64 p]) (by rw [hn_]; exact M2.out.k3.below n_.below M2.out.k3.lt) rfl _ rfl rfl) rfl rfl ?_
     intro ts_ ht_; simp only [sI, sZ, sS] at ht_; subst ht_
     refine q_do (.slice (some ⟨g8, 0, none⟩) 12 12) (fun w'_ hc_ => ex_mv (.tmp 5) (.inl rfl) _ rfl) rfl rfl ?_
     intro ts_ ht_; simp only [sI, sZ, sS] at ht_; subst ht_
     refine q_do (.int .i64 x6) (fun w'_ hc_ => ex_mv (.tmp 6) (.inl rfl) _ rfl) rfl rfl ?_
     intro ts_ ht_; simp only [sI, sZ, sS] at ht_; subst ht_
     refine q_do (.int .i64 (wrap64 (x6 + 1))) (fun w'_ hc_ => by go_simp) rfl rfl ?_
     intro ts_ ht_; simp only [sI, sZ, sS] at ht_; subst ht_
     refine q_do (.pointer (some ⟨g8, (wrap64 (x6 + 1)).toNat, none⟩)) (fun w'_ hc_ => k_sat g8 12 12 (wrap64 (x6 + 1)) B1.out.1 B1.out.2 us27 sT3 _ _ rfl rfl rfl) rfl rfl ?_
     intro ts_ ht_; simp only [sI, sZ, sS] at ht_; subst ht_
     refine q_do (.int .i64 rf) (fun w'_ hc_ => by obtain ⟨n_, hn_⟩ := hc_; exact ex_get sT3 g8 (wrap64 (x6 + 1)).toNat (.int .i64 rf) rowV (by rw [hn_]; exact M2.out.k8.below n_.below M2.out.k8.lt) R1.out _ rfl rfl) rfl rfl ?_
     intro ts_ ht_; simp only [sI, sZ, sS] at ht_; subst ht_
     refine q_do (.bool true) (fun w'_ hc_ => (show _ from by have h_ := X2.out; go_simp <;> (first | exact h_ | (simpa using h_)))) rfl rfl ?_
     intro ts_ ht_; simp only [sI, sZ, sS] at ht_; subst ht_
     refine q_do (.bool true) (fun w'_ hc_ => by go_simp) rfl rfl ?_
     intro ts_ ht_; simp only [sI, sZ, sS] at ht_; subst ht_
     refine q_do (.bool true) (fun w'_ hc_ => by go_simp) rfl rfl ?_
     intro ts_ ht_; simp only [sI, sZ, sS] at ht_; subst ht_
     refine q_do (.pointer (some ⟨g3, 1, none⟩)) (fun w'_ hc_ => ex_field 75 1 (.pointer (some ⟨g3, 0, none⟩)) (.pointer (some ⟨g3, 1, none⟩)) (kfa75_1 g3) _ rfl rfl) rfl rfl ?_
     intro ts_ ht_; simp only [sI, sZ, sS] at ht_; subst ht_
     refine q_do (.int .i64 o) (fun w'_ hc_ => by obtain ⟨n_, hn_⟩ := hc_; exact ex_get sT3 g3 1 (.int .i64 o) (#[.int .i64 f, .int .i64 o, .int .i64 p]) (by rw [hn_]; exact M2.out.k3.below n_.below M2.out.k3.lt) rfl _ rfl rfl) rfl rfl ?_
     intro ts_ ht_; simp only [sI, sZ, sS] at ht_; subst ht_
     refine q_do (.slice (some ⟨g8, 0, none⟩) 12 12) (fun w'_ hc_ => ex_mv (.tmp 5) (.inl rfl) _ rfl) rfl rfl ?_
     intro ts_ ht_; simp only [sI, sZ, sS] at ht_; subst ht_
     refine q_do (.int .i64 x6) (fun w'_ hc_ => ex_mv (.tmp 6) (.inl rfl) _ rfl) rfl rfl ?_
     intro ts_ ht_; simp only [sI, sZ, sS] at ht_; subst ht_
     refine q_do (.int .i64 (wrap64 (x6 + 2))) (fun w'_ hc_ => by go_simp) rfl rfl ?_
     intro ts_ ht_; simp only [sI, sZ, sS] at ht_; subst ht_
     refine q_do (.pointer (some ⟨g8, (wrap64 (x6 + 2)).toNat, none⟩)) (fun w'_ hc_ => k_sat g8 12 12 (wrap64 (x6 + 2)) B2.out.1 B2.out.2 us27 sT3 _ _ rfl rfl rfl) rfl rfl ?_
     intro ts_ ht_; simp only [sI, sZ, sS] at ht_; subst ht_
     refine q_do (.int .i64 ro) (fun w'_ hc_ => by obtain ⟨n_, hn_⟩ := hc_; exact ex_get sT3 g8 (wrap64 (x6 + 2)).toNat (.int .i64 ro) rowV (by rw [hn_]; exact M2.out.k8.below n_.below M2.out.k8.lt) R2.out _ rfl rfl) rfl rfl ?_
     intro ts_ ht_; simp only [sI, sZ, sS] at ht_; subst ht_
     refine q_do (.bool false) (fun w'_ hc_ => (show _ from by have h_ := X3.out; go_simp <;> (first | exact h_ | (simpa using h_)))) rfl rfl ?_
     intro ts_ ht_; simp only [sI, sZ, sS] at ht_; subst ht_
     refine q_do (.bool false) (fun w'_ hc_ => by go_simp) rfl rfl ?_
     intro ts_ ht_; simp only [sI, sZ, sS] at ht_; subst ht_
     refine q_do (.bool false) (fun w'_ hc_ => by go_simp) rfl rfl ?_
     intro ts_ ht_; simp only [sI, sZ, sS] at ht_; subst ht_
     refine q_not 27 false rfl rfl rfl ?_
     intro ts_ ht_; simp only [sI, sZ, sS] at ht_; subst ht_
     refine q_not 27 false rfl rfl rfl ?_
     intro ts_ ht_; simp only [sI, sZ, sS] at ht_; subst ht_
     refine q_not 27 false rfl rfl rfl ?_
     intro ts_ ht_; simp only [sI, sZ, sS] at ht_; subst ht_
     refine q_not 27 false rfl rfl rfl ?_
     intro ts_ ht_; simp only [sI, sZ, sS] at ht_; subst ht_
     refine q_not 27 false rfl rfl rfl ?_
     intro ts_ ht_; simp only [sI, sZ, sS] at ht_; subst ht_
     refine q_not 27 false rfl rfl rfl ?_
     intro ts_ ht_; simp only [sI, sZ, sS] at ht_; subst ht_
     refine q_not 27 false rfl rfl rfl ?_
     intro ts_ ht_; simp only [sI, sZ, sS] at ht_; subst ht_
     refine q_do (.bool false) (fun w'_ hc_ => by go_simp) rfl rfl ?_
     intro ts_ ht_; simp only [sI, sZ, sS] at ht_; subst ht_
     refine q_do (.bool false) (fun w'_ hc_ => by go_simp) rfl rfl ?_
     intro ts_ ht_; simp only [sI, sZ, sS] at ht_; subst ht_
     refine q_not 36 false rfl rfl rfl ?_
     intro ts_ ht_; simp only [sI, sZ, sS] at ht_; subst ht_
     refine q_not 36 false rfl rfl rfl ?_
     intro ts_ ht_; simp only [sI, sZ, sS] at ht_; subst ht_
     refine q_not 36 false rfl rfl rfl ?_
     intro ts_ ht_; simp only [sI, sZ, sS] at ht_; subst ht_
     refine q_not 36 false rfl rfl rfl ?_
     intro ts_ ht_; simp only [sI, sZ, sS] at ht_; subst ht_
     refine q_not 36 false rfl rfl rfl ?_
     intro ts_ ht_; simp only [sI, sZ, sS] at ht_; subst ht_
     refine q_not 36 false rfl rfl rfl ?_
     intro ts_ ht_; simp only [sI, sZ, sS] at ht_; subst ht_
     refine q_not 36 false rfl rfl rfl ?_
     intro ts_ ht_; simp only [sI, sZ, sS] at ht_; subst ht_
     refine q_do (.bool false) (fun w'_ hc_ => by go_simp) rfl rfl ?_
     intro ts_ ht_; simp only [sI, sZ, sS] at ht_; subst ht_
     refine q_end ?_
     rintro w8_ ⟨n_, rfl⟩
     have M3 := hid (M2.out.go n_.below)
     generalize n_.world = w9 at *
     go_wp2_with fail
     go_meet
     case rel => exact ⟨rfl, M3⟩
    ·
     refine up_regionW (by kernel_rfl) (by kernel_rfl) ?_
     refine q_do (.pointer (some ⟨g2, 65, none⟩)) (fun w'_ hc_ => ex_field 46 2 (.pointer (some ⟨g2, 0, none⟩)) (.pointer (some ⟨g2, 65, none⟩)) (kfa46_2 g2) _ rfl rfl) rfl rfl ?_
     intro ts_ ht_; simp only [sI, sZ, sS] at ht_; subst ht_
     refine q_do (.int .i64 c) (fun w'_ hc_ => by obtain ⟨n_, hn_⟩ := hc_; exact ex_get sT3 g2 65 (.int .i64 c) (pv b t c e) (by rw [hn_]; exact M2.out.k2.below n_.below M2.out.k2.lt) (pv_c2 HB.out) _ rfl rfl) rfl rfl ?_
     intro ts_ ht_; simp only [sI, sZ, sS] at ht_; subst ht_
     refine q_do (.slice (some ⟨g8, 0, none⟩) 12 12) (fun w'_ hc_ => ex_mv (.tmp 5) (.inl rfl) _ rfl) rfl rfl ?_
     intro ts_ ht_; simp only [sI, sZ, sS] at ht_; subst ht_
     refine q_do (.int .i64 x6) (fun w'_ hc_ => ex_mv (.tmp 6) (.inl rfl) _ rfl) rfl rfl ?_
     intro ts_ ht_; simp only [sI, sZ, sS] at ht_; subst ht_
     refine q_do (.pointer (some ⟨g8, (x6).toNat, none⟩)) (fun w'_ hc_ => k_sat g8 12 12 (x6) HQ.out.2.1 HQ.out.2.2 us27 sT3 _ _ rfl rfl rfl) rfl rfl ?_
     intro ts_ ht_; simp only [sI, sZ, sS] at ht_; subst ht_
     refine q_do (.int .i64 rv) (fun w'_ hc_ => by obtain ⟨n_, hn_⟩ := hc_; exact ex_get sT3 g8 (x6).toNat (.int .i64 rv) rowV (by rw [hn_]; exact M2.out.k8.below n_.below M2.out.k8.lt) R0.out _ rfl rfl) rfl rfl ?_
     intro ts_ ht_; simp only [sI, sZ, sS] at ht_; subst ht_
     refine q_call (.bool true) 86 #[.int .i64 c, .int .i64 rv] (fun w'_ => by go_simp) (fun w'_ hc_ => (i_alfilref08_Has.calls c rv _ _ HHS.out).mono fun e_ w2_ h_ => ⟨h_.1, up_same hc_ h_.2⟩) rfl rfl ?_
     intro ts_ ht_; simp only [sI, sZ, sS] at ht_; subst ht_
     refine q_do (.bool true) (fun w'_ hc_ => ex_mv (.tmp 21) (.inl rfl) _ rfl) rfl rfl ?_
     intro ts_ ht_; simp only [sI, sZ, sS] at ht_; subst ht_
     refine q_do (.pointer (some ⟨g3, 0, none⟩)) (fun w'_ hc_ => ex_field 75 0 (.pointer (some ⟨g3, 0, none⟩)) (.pointer (some ⟨g3, 0, none⟩)) (kfa75_0 g3) _ rfl rfl) rfl rfl ?_
     intro ts_ ht_; simp only [sI, sZ, sS] at ht_; subst ht_
     refine q_do (.int .i64 f) (fun w'_ hc_ => by obtain ⟨n_, hn_⟩ := hc_; exact ex_get sT3 g3 0 (.int .i64 f) (#[.int .i64 f, .int .i64 o, .int .i64 p]) (by rw [hn_]; exact M2.out.k3.below n_.below M2.out.k3.lt) rfl _ rfl rfl) rfl rfl ?_
     intro ts_ ht_; simp only [sI, sZ, sS] at ht_; subst ht_
     refine q_do (.slice (some ⟨g8, 0, none⟩) 12 12) (fun w'_ hc_ => ex_mv (.tmp 5) (.inl rfl) _ rfl) rfl rfl ?_
     intro ts_ ht_; simp only [sI, sZ, sS] at ht_; subst ht_
     refine q_do (.int .i64 x6) (fun w'_ hc_ => ex_mv (.tmp 6) (.inl rfl) _ rfl) rfl rfl ?_
     intro ts_ ht_; simp only [sI, sZ, sS] at ht_; subst ht_
     refine q_do (.int .i64 (wrap64 (x6 + 1))) (fun w'_ hc_ => by go_simp) rfl rfl ?_
     intro ts_ ht_; simp only [sI, sZ, sS] at ht_; subst ht_
     refine q_do (.pointer (some ⟨g8, (wrap64 (x6 + 1)).toNat, none⟩)) (fun w'_ hc_ => k_sat g8 12 12 (wrap64 (x6 + 1)) B1.out.1 B1.out.2 us27 sT3 _ _ rfl rfl rfl) rfl rfl ?_
     intro ts_ ht_; simp only [sI, sZ, sS] at ht_; subst ht_
     refine q_do (.int .i64 rf) (fun w'_ hc_ => by obtain ⟨n_, hn_⟩ := hc_; exact ex_get sT3 g8 (wrap64 (x6 + 1)).toNat (.int .i64 rf) rowV (by rw [hn_]; exact M2.out.k8.below n_.below M2.out.k8.lt) R1.out _ rfl rfl) rfl rfl ?_
     intro ts_ ht_; simp only [sI, sZ, sS] at ht_; subst ht_
     refine q_do (.bool true) (fun w'_ hc_ => (show _ from by have h_ := X2.out; go_simp <;> (first | exact h_ | (simpa using h_)))) rfl rfl ?_
     intro ts_ ht_; simp only [sI, sZ, sS] at ht_; subst ht_
     refine q_do (.bool true) (fun w'_ hc_ => by go_simp) rfl rfl ?_
     intro ts_ ht_; simp only [sI, sZ, sS] at ht_; subst ht_
     refine q_do (.bool true) (fun w'_ hc_ => by go_simp) rfl rfl ?_
     intro ts_ ht_; simp only [sI, sZ, sS] at ht_; subst ht_
     refine q_do (.pointer (some ⟨g3, 1, none⟩)) (fun w'_ hc_ => ex_field 75 1 (.pointer (some ⟨g3, 0, none⟩)) (.pointer (some ⟨g3, 1, none⟩)) (kfa75_1 g3) _ rfl rfl) rfl rfl ?_
     intro ts_ ht_; simp only [sI, sZ, sS] at ht_; subst ht_
     refine q_do (.int .i64 o) (fun w'_ hc_ => by obtain ⟨n_, hn_⟩ := hc_; exact ex_get sT3 g3 1 (.int .i64 o) (#[.int .i64 f, .int .i64 o, .int .i64 p]) (by rw [hn_]; exact M2.out.k3.below n_.below M2.out.k3.lt) rfl _ rfl rfl) rfl rfl ?_
     intro ts_ ht_; simp only [sI, sZ, sS] at ht_; subst ht_
     refine q_do (.slice (some ⟨g8, 0, none⟩) 12 12) (fun w'_ hc_ => ex_mv (.tmp 5) (.inl rfl) _ rfl) rfl rfl ?_
     intro ts_ ht_; simp only [sI, sZ, sS] at ht_; subst ht_
     refine q_do (.int .i64 x6) (fun w'_ hc_ => ex_mv (.tmp 6) (.inl rfl) _ rfl) rfl rfl ?_
     intro ts_ ht_; simp only [sI, sZ, sS] at ht_; subst ht_
     refine q_do (.int .i64 (wrap64 (x6 + 2))) (fun w'_ hc_ => by go_simp) rfl rfl ?_
     intro ts_ ht_; simp only [sI, sZ, sS] at ht_; subst ht_
     refine q_do (.pointer (some ⟨g8, (wrap64 (x6 + 2)).toNat, none⟩)) (fun w'_ hc_ => k_sat g8 12 12 (wrap64 (x6 + 2)) B2.out.1 B2.out.2 us27 sT3 _ _ rfl rfl rfl) rfl rfl ?_
     intro ts_ ht_; simp only [sI, sZ, sS] at ht_; subst ht_
     refine q_do (.int .i64 ro) (fun w'_ hc_ => by obtain ⟨n_, hn_⟩ := hc_; exact ex_get sT3 g8 (wrap64 (x6 + 2)).toNat (.int .i64 ro) rowV (by rw [hn_]; exact M2.out.k8.below n_.below M2.out.k8.lt) R2.out _ rfl rfl) rfl rfl ?_
     intro ts_ ht_; simp only [sI, sZ, sS] at ht_; subst ht_
     refine q_do (.bool true) (fun w'_ hc_ => (show _ from by have h_ := X3.out; go_simp <;> (first | exact h_ | (simpa using h_)))) rfl rfl ?_
     intro ts_ ht_; simp only [sI, sZ, sS] at ht_; subst ht_
     refine q_do (.bool true) (fun w'_ hc_ => by go_simp) rfl rfl ?_
     intro ts_ ht_; simp only [sI, sZ, sS] at ht_; subst ht_
     refine q_do (.bool true) (fun w'_ hc_ => by go_simp) rfl rfl ?_
     intro ts_ ht_; simp only [sI, sZ, sS] at ht_; subst ht_
     refine q_do (.pointer (some ⟨g3, 0, none⟩)) (fun w'_ hc_ => ex_field 75 0 (.pointer (some ⟨g3, 0, none⟩)) (.pointer (some ⟨g3, 0, none⟩)) (kfa75_0 g3) _ rfl rfl) rfl rfl ?_
     intro ts_ ht_; simp only [sI, sZ, sS] at ht_; subst ht_
     refine q_do (.int .i64 f) (fun w'_ hc_ => by obtain ⟨n_, hn_⟩ := hc_; exact ex_get sT3 g3 0 (.int .i64 f) (#[.int .i64 f, .int .i64 o, .int .i64 p]) (by rw [hn_]; exact M2.out.k3.below n_.below M2.out.k3.lt) rfl _ rfl rfl) rfl rfl ?_
     intro ts_ ht_; simp only [sI, sZ, sS] at ht_; subst ht_
     refine q_do (.pointer (some ⟨g2, 0, none⟩)) (fun w'_ hc_ => ex_field 46 0 (.pointer (some ⟨g2, 0, none⟩)) (.pointer (some ⟨g2, 0, none⟩)) (kfa46_0 g2) _ rfl rfl) rfl rfl ?_
     intro ts_ ht_; simp only [sI, sZ, sS] at ht_; subst ht_
     refine q_do (.pointer (some ⟨g2, f.toNat, none⟩)) (fun w'_ hc_ => ex_at 44 (.pointer (some ⟨g2, 0, none⟩)) (.int .i64 f) (.pointer (some ⟨g2, f.toNat, none⟩)) (fun w_ => (run_atv 42 uT44 sT42.size g2 0 f HF0.out HF1.out w_).trans (by simp)) _ _ rfl rfl rfl) rfl rfl ?_
     intro ts_ ht_; simp only [sI, sZ, sS] at ht_; subst ht_
     refine q_do (.int .i8 (nt b f.toNat 0)) (fun w'_ hc_ => by obtain ⟨n_, hn_⟩ := hc_; exact ex_get sT42 g2 f.toNat (.int .i8 (nt b f.toNat 0)) (pv b t c e) (by rw [hn_]; exact M2.out.k2.below n_.below M2.out.k2.lt) (xv_elem 0 (by have := HB.out; have := HF0.out; have := HF1.out; omega)) _ rfl rfl) rfl rfl ?_
     intro ts_ ht_; simp only [sI, sZ, sS] at ht_; subst ht_
     refine q_do (.int .i8 rk) (fun w'_ hc_ => by go_simp) rfl rfl ?_
     intro ts_ ht_; simp only [sI, sZ, sS] at ht_; subst ht_
     refine q_do (.bool false) (fun w'_ hc_ => (show _ from by have h_ := X4.out; go_simp <;> (first | exact h_ | (simpa using h_)))) rfl rfl ?_
     intro ts_ ht_; simp only [sI, sZ, sS] at ht_; subst ht_
     refine q_do (.bool false) (fun w'_ hc_ => by go_simp) rfl rfl ?_
     intro ts_ ht_; simp only [sI, sZ, sS] at ht_; subst ht_
     refine q_do (.bool false) (fun w'_ hc_ => by go_simp) rfl rfl ?_
     intro ts_ ht_; simp only [sI, sZ, sS] at ht_; subst ht_
     refine q_not 36 false rfl rfl rfl ?_
     intro ts_ ht_; simp only [sI, sZ, sS] at ht_; subst ht_
     refine q_not 36 false rfl rfl rfl ?_
     intro ts_ ht_; simp only [sI, sZ, sS] at ht_; subst ht_
     refine q_not 36 false rfl rfl rfl ?_
     intro ts_ ht_; simp only [sI, sZ, sS] at ht_; subst ht_
     refine q_not 36 false rfl rfl rfl ?_
     intro ts_ ht_; simp only [sI, sZ, sS] at ht_; subst ht_
     refine q_not 36 false rfl rfl rfl ?_
     intro ts_ ht_; simp only [sI, sZ, sS] at ht_; subst ht_
     refine q_not 36 false rfl rfl rfl ?_
     intro ts_ ht_; simp only [sI, sZ, sS] at ht_; subst ht_
     refine q_not 36 false rfl rfl rfl ?_
     intro ts_ ht_; simp only [sI, sZ, sS] at ht_; subst ht_
     refine q_do (.bool false) (fun w'_ hc_ => by go_simp) rfl rfl ?_
     intro ts_ ht_; simp only [sI, sZ, sS] at ht_; subst ht_
     refine q_end ?_
     rintro w8_ ⟨n_, rfl⟩
     have M3 := hid (M2.out.go n_.below)
     generalize n_.world = w9 at *
     go_wp2_with fail
     go_meet
     case rel => exact ⟨rfl, M3⟩
    ·
     refine up_regionW (by kernel_rfl) (by kernel_rfl) ?_
     refine q_do (.pointer (some ⟨g2, 65, none⟩)) (fun w'_ hc_ => ex_field 46 2 (.pointer (some ⟨g2, 0, none⟩)) (.pointer (some ⟨g2, 65, none⟩)) (kfa46_2 g2) _ rfl rfl) rfl rfl ?_
     intro ts_ ht_; simp only [sI, sZ, sS] at ht_; subst ht_
     refine q_do (.int .i64 c) (fun w'_ hc_ => by obtain ⟨n_, hn_⟩ := hc_; exact ex_get sT3 g2 65 (.int .i64 c) (pv b t c e) (by rw [hn_]; exact M2.out.k2.below n_.below M2.out.k2.lt) (pv_c2 HB.out) _ rfl rfl) rfl rfl ?_
     intro ts_ ht_; simp only [sI, sZ, sS] at ht_; subst ht_
     refine q_do (.slice (some ⟨g8, 0, none⟩) 12 12) (fun w'_ hc_ => ex_mv (.tmp 5) (.inl rfl) _ rfl) rfl rfl ?_
     intro ts_ ht_; simp only [sI, sZ, sS] at ht_; subst ht_
     refine q_do (.int .i64 x6) (fun w'_ hc_ => ex_mv (.tmp 6) (.inl rfl) _ rfl) rfl rfl ?_
     intro ts_ ht_; simp only [sI, sZ, sS] at ht_; subst ht_
     refine q_do (.pointer (some ⟨g8, (x6).toNat, none⟩)) (fun w'_ hc_ => k_sat g8 12 12 (x6) HQ.out.2.1 HQ.out.2.2 us27 sT3 _ _ rfl rfl rfl) rfl rfl ?_
     intro ts_ ht_; simp only [sI, sZ, sS] at ht_; subst ht_
     refine q_do (.int .i64 rv) (fun w'_ hc_ => by obtain ⟨n_, hn_⟩ := hc_; exact ex_get sT3 g8 (x6).toNat (.int .i64 rv) rowV (by rw [hn_]; exact M2.out.k8.below n_.below M2.out.k8.lt) R0.out _ rfl rfl) rfl rfl ?_
     intro ts_ ht_; simp only [sI, sZ, sS] at ht_; subst ht_
     refine q_call (.bool true) 86 #[.int .i64 c, .int .i64 rv] (fun w'_ => by go_simp) (fun w'_ hc_ => (i_alfilref08_Has.calls c rv _ _ HHS.out).mono fun e_ w2_ h_ => ⟨h_.1, up_same hc_ h_.2⟩) rfl rfl ?_
     intro ts_ ht_; simp only [sI, sZ, sS] at ht_; subst ht_
     refine q_do (.bool true) (fun w'_ hc_ => ex_mv (.tmp 21) (.inl rfl) _ rfl) rfl rfl ?_
     intro ts_ ht_; simp only [sI, sZ, sS] at ht_; subst ht_
     refine q_do (.pointer (some ⟨g3, 0, none⟩)) (fun w'_ hc_ => ex_field 75 0 (.pointer (some ⟨g3, 0, none⟩)) (.pointer (some ⟨g3, 0, none⟩)) (kfa75_0 g3) _ rfl rfl) rfl rfl ?_
     intro ts_ ht_; simp only [sI, sZ, sS] at ht_; subst ht_
     refine q_do (.int .i64 f) (fun w'_ hc_ => by obtain ⟨n_, hn_⟩ := hc_; exact ex_get sT3 g3 0 (.int .i64 f) (#[.int .i64 f, .int .i64 o, .int .i64 p]) (by rw [hn_]; exact M2.out.k3.below n_.below M2.out.k3.lt) rfl _ rfl rfl) rfl rfl ?_
     intro ts_ ht_; simp only [sI, sZ, sS] at ht_; subst ht_
     refine q_do (.slice (some ⟨g8, 0, none⟩) 12 12) (fun w'_ hc_ => ex_mv (.tmp 5) (.inl rfl) _ rfl) rfl rfl ?_
     intro ts_ ht_; simp only [sI, sZ, sS] at ht_; subst ht_
     refine q_do (.int .i64 x6) (fun w'_ hc_ => ex_mv (.tmp 6) (.inl rfl) _ rfl) rfl rfl ?_
     intro ts_ ht_; simp only [sI, sZ, sS] at ht_; subst ht_
     refine q_do (.int .i64 (wrap64 (x6 + 1))) (fun w'_ hc_ => by go_simp) rfl rfl ?_
     intro ts_ ht_; simp only [sI, sZ, sS] at ht_; subst ht_
     refine q_do (.pointer (some ⟨g8, (wrap64 (x6 + 1)).toNat, none⟩)) (fun w'_ hc_ => k_sat g8 12 12 (wrap64 (x6 + 1)) B1.out.1 B1.out.2 us27 sT3 _ _ rfl rfl rfl) rfl rfl ?_
     intro ts_ ht_; simp only [sI, sZ, sS] at ht_; subst ht_
     refine q_do (.int .i64 rf) (fun w'_ hc_ => by obtain ⟨n_, hn_⟩ := hc_; exact ex_get sT3 g8 (wrap64 (x6 + 1)).toNat (.int .i64 rf) rowV (by rw [hn_]; exact M2.out.k8.below n_.below M2.out.k8.lt) R1.out _ rfl rfl) rfl rfl ?_
     intro ts_ ht_; simp only [sI, sZ, sS] at ht_; subst ht_
     refine q_do (.bool true) (fun w'_ hc_ => (show _ from by have h_ := X2.out; go_simp <;> (first | exact h_ | (simpa using h_)))) rfl rfl ?_
     intro ts_ ht_; simp only [sI, sZ, sS] at ht_; subst ht_
     refine q_do (.bool true) (fun w'_ hc_ => by go_simp) rfl rfl ?_
     intro ts_ ht_; simp only [sI, sZ, sS] at ht_; subst ht_
     refine q_do (.bool true) (fun w'_ hc_ => by go_simp) rfl rfl ?_
     intro ts_ ht_; simp only [sI, sZ, sS] at ht_; subst ht_
     refine q_do (.pointer (some ⟨g3, 1, none⟩)) (fun w'_ hc_ => ex_field 75 1 (.pointer (some ⟨g3, 0, none⟩)) (.pointer (some ⟨g3, 1, none⟩)) (kfa75_1 g3) _ rfl rfl) rfl rfl ?_
     intro ts_ ht_; simp only [sI, sZ, sS] at ht_; subst ht_
     refine q_do (.int .i64 o) (fun w'_ hc_ => by obtain ⟨n_, hn_⟩ := hc_; exact ex_get sT3 g3 1 (.int .i64 o) (#[.int .i64 f, .int .i64 o, .int .i64 p]) (by rw [hn_]; exact M2.out.k3.below n_.below M2.out.k3.lt) rfl _ rfl rfl) rfl rfl ?_
     intro ts_ ht_; simp only [sI, sZ, sS] at ht_; subst ht_
     refine q_do (.slice (some ⟨g8, 0, none⟩) 12 12) (fun w'_ hc_ => ex_mv (.tmp 5) (.inl rfl) _ rfl) rfl rfl ?_
     intro ts_ ht_; simp only [sI, sZ, sS] at ht_; subst ht_
     refine q_do (.int .i64 x6) (fun w'_ hc_ => ex_mv (.tmp 6) (.inl rfl) _ rfl) rfl rfl ?_
     intro ts_ ht_; simp only [sI, sZ, sS] at ht_; subst ht_
     refine q_do (.int .i64 (wrap64 (x6 + 2))) (fun w'_ hc_ => by go_simp) rfl rfl ?_
     intro ts_ ht_; simp only [sI, sZ, sS] at ht_; subst ht_
     refine q_do (.pointer (some ⟨g8, (wrap64 (x6 + 2)).toNat, none⟩)) (fun w'_ hc_ => k_sat g8 12 12 (wrap64 (x6 + 2)) B2.out.1 B2.out.2 us27 sT3 _ _ rfl rfl rfl) rfl rfl ?_
     intro ts_ ht_; simp only [sI, sZ, sS] at ht_; subst ht_
     refine q_do (.int .i64 ro) (fun w'_ hc_ => by obtain ⟨n_, hn_⟩ := hc_; exact ex_get sT3 g8 (wrap64 (x6 + 2)).toNat (.int .i64 ro) rowV (by rw [hn_]; exact M2.out.k8.below n_.below M2.out.k8.lt) R2.out _ rfl rfl) rfl rfl ?_
     intro ts_ ht_; simp only [sI, sZ, sS] at ht_; subst ht_
     refine q_do (.bool true) (fun w'_ hc_ => (show _ from by have h_ := X3.out; go_simp <;> (first | exact h_ | (simpa using h_)))) rfl rfl ?_
     intro ts_ ht_; simp only [sI, sZ, sS] at ht_; subst ht_
     refine q_do (.bool true) (fun w'_ hc_ => by go_simp) rfl rfl ?_
     intro ts_ ht_; simp only [sI, sZ, sS] at ht_; subst ht_
     refine q_do (.bool true) (fun w'_ hc_ => by go_simp) rfl rfl ?_
     intro ts_ ht_; simp only [sI, sZ, sS] at ht_; subst ht_
     refine q_do (.pointer (some ⟨g3, 0, none⟩)) (fun w'_ hc_ => ex_field 75 0 (.pointer (some ⟨g3, 0, none⟩)) (.pointer (some ⟨g3, 0, none⟩)) (kfa75_0 g3) _ rfl rfl) rfl rfl ?_
     intro ts_ ht_; simp only [sI, sZ, sS] at ht_; subst ht_
     refine q_do (.int .i64 f) (fun w'_ hc_ => by obtain ⟨n_, hn_⟩ := hc_; exact ex_get sT3 g3 0 (.int .i64 f) (#[.int .i64 f, .int .i64 o, .int .i64 p]) (by rw [hn_]; exact M2.out.k3.below n_.below M2.out.k3.lt) rfl _ rfl rfl) rfl rfl ?_
     intro ts_ ht_; simp only [sI, sZ, sS] at ht_; subst ht_
     refine q_do (.pointer (some ⟨g2, 0, none⟩)) (fun w'_ hc_ => ex_field 46 0 (.pointer (some ⟨g2, 0, none⟩)) (.pointer (some ⟨g2, 0, none⟩)) (kfa46_0 g2) _ rfl rfl) rfl rfl ?_
     intro ts_ ht_; simp only [sI, sZ, sS] at ht_; subst ht_
     refine q_do (.pointer (some ⟨g2, f.toNat, none⟩)) (fun w'_ hc_ => ex_at 44 (.pointer (some ⟨g2, 0, none⟩)) (.int .i64 f) (.pointer (some ⟨g2, f.toNat, none⟩)) (fun w_ => (run_atv 42 uT44 sT42.size g2 0 f HF0.out HF1.out w_).trans (by simp)) _ _ rfl rfl rfl) rfl rfl ?_
     intro ts_ ht_; simp only [sI, sZ, sS] at ht_; subst ht_
     refine q_do (.int .i8 (nt b f.toNat 0)) (fun w'_ hc_ => by obtain ⟨n_, hn_⟩ := hc_; exact ex_get sT42 g2 f.toNat (.int .i8 (nt b f.toNat 0)) (pv b t c e) (by rw [hn_]; exact M2.out.k2.below n_.below M2.out.k2.lt) (xv_elem 0 (by have := HB.out; have := HF0.out; have := HF1.out; omega)) _ rfl rfl) rfl rfl ?_
     intro ts_ ht_; simp only [sI, sZ, sS] at ht_; subst ht_
     refine q_do (.int .i8 rk) (fun w'_ hc_ => by go_simp) rfl rfl ?_
     intro ts_ ht_; simp only [sI, sZ, sS] at ht_; subst ht_
     refine q_do (.bool true) (fun w'_ hc_ => (show _ from by have h_ := X4.out; go_simp <;> (first | exact h_ | (simpa using h_)))) rfl rfl ?_
     intro ts_ ht_; simp only [sI, sZ, sS] at ht_; subst ht_
     refine q_do (.bool true) (fun w'_ hc_ => by go_simp) rfl rfl ?_
     intro ts_ ht_; simp only [sI, sZ, sS] at ht_; subst ht_
     refine q_do (.bool true) (fun w'_ hc_ => by go_simp) rfl rfl ?_
     intro ts_ ht_; simp only [sI, sZ, sS] at ht_; subst ht_
     refine q_do (.pointer (some ⟨g2, 0, none⟩)) (fun w'_ hc_ => ex_field 46 0 (.pointer (some ⟨g2, 0, none⟩)) (.pointer (some ⟨g2, 0, none⟩)) (kfa46_0 g2) _ rfl rfl) rfl rfl ?_
     intro ts_ ht_; simp only [sI, sZ, sS] at ht_; subst ht_
     refine q_do (.agg (bv b)) (fun w'_ hc_ => by obtain ⟨n_, hn_⟩ := hc_; exact ex_load boardT g2 0 (pv b t c e) (bv b) (by rw [hn_]; exact M2.out.k2.below n_.below M2.out.k2.lt) (xv_lea HB.out) (xv_exa HB.out) _ rfl rfl) rfl rfl ?_
     intro ts_ ht_; simp only [sI, sZ, sS] at ht_; subst ht_
     refine q_do (.slice (some ⟨g8, 0, none⟩) 12 12) (fun w'_ hc_ => ex_mv (.tmp 5) (.inl rfl) _ rfl) rfl rfl ?_
     intro ts_ ht_; simp only [sI, sZ, sS] at ht_; subst ht_
     refine q_do (.int .i64 x6) (fun w'_ hc_ => ex_mv (.tmp 6) (.inl rfl) _ rfl) rfl rfl ?_
     intro ts_ ht_; simp only [sI, sZ, sS] at ht_; subst ht_
     refine q_do (.pointer (some ⟨g8, (x6).toNat, none⟩)) (fun w'_ hc_ => k_sat g8 12 12 (x6) HQ.out.2.1 HQ.out.2.2 us27 sT3 _ _ rfl rfl rfl) rfl rfl ?_
     intro ts_ ht_; simp only [sI, sZ, sS] at ht_; subst ht_
     refine q_do (.int .i64 rv) (fun w'_ hc_ => by obtain ⟨n_, hn_⟩ := hc_; exact ex_get sT3 g8 (x6).toNat (.int .i64 rv) rowV (by rw [hn_]; exact M2.out.k8.below n_.below M2.out.k8.lt) R0.out _ rfl rfl) rfl rfl ?_
     intro ts_ ht_; simp only [sI, sZ, sS] at ht_; subst ht_
     refine q_call (.bool false) 111 #[.agg (bv b), .int .i64 rv] (fun w'_ => by go_simp) (fun w'_ hc_ => (i_alfilref09_clear.calls b rv HB.out _ _ HCL.out).mono fun e_ w2_ h_ => ⟨h_.1, up_below hc_ h_.2⟩) rfl rfl ?_
     intro ts_ ht_; simp only [sI, sZ, sS] at ht_; subst ht_
     refine q_do (.bool false) (fun w'_ hc_ => by go_simp) rfl rfl ?_
     intro ts_ ht_; simp only [sI, sZ, sS] at ht_; subst ht_
     refine q_end ?_
     rintro w8_ ⟨n_, rfl⟩
     have M3 := hid (M2.out.go n_.below)
     generalize n_.world = w9 at *
     go_wp2_with fail
     go_meet
     case rel => exact ⟨rfl, M3⟩
    ·
     refine up_regionW (by kernel_rfl) (by kernel_rfl) ?_
     refine q_do (.pointer (some ⟨g2, 65, none⟩)) (fun w'_ hc_ => ex_field 46 2 (.pointer (some ⟨g2, 0, none⟩)) (.pointer (some ⟨g2, 65, none⟩)) (kfa46_2 g2) _ rfl rfl) rfl rfl ?_
     intro ts_ ht_; simp only [sI, sZ, sS] at ht_; subst ht_
     refine q_do (.int .i64 c) (fun w'_ hc_ => by obtain ⟨n_, hn_⟩ := hc_; exact ex_get sT3 g2 65 (.int .i64 c) (pv b t c e) (by rw [hn_]; exact M2.out.k2.below n_.below M2.out.k2.lt) (pv_c2 HB.out) _ rfl rfl) rfl rfl ?_
     intro ts_ ht_; simp only [sI, sZ, sS] at ht_; subst ht_
     refine q_do (.slice (some ⟨g8, 0, none⟩) 12 12) (fun w'_ hc_ => ex_mv (.tmp 5) (.inl rfl) _ rfl) rfl rfl ?_
     intro ts_ ht_; simp only [sI, sZ, sS] at ht_; subst ht_
     refine q_do (.int .i64 x6) (fun w'_ hc_ => ex_mv (.tmp 6) (.inl rfl) _ rfl) rfl rfl ?_
     intro ts_ ht_; simp only [sI, sZ, sS] at ht_; subst ht_
     refine q_do (.pointer (some ⟨g8, (x6).toNat, none⟩)) (fun w'_ hc_ => k_sat g8 12 12 (x6) HQ.out.2.1 HQ.out.2.2 us27 sT3 _ _ rfl rfl rfl) rfl rfl ?_
     intro ts_ ht_; simp only [sI, sZ, sS] at ht_; subst ht_
     refine q_do (.int .i64 rv) (fun w'_ hc_ => by obtain ⟨n_, hn_⟩ := hc_; exact ex_get sT3 g8 (x6).toNat (.int .i64 rv) rowV (by rw [hn_]; exact M2.out.k8.below n_.below M2.out.k8.lt) R0.out _ rfl rfl) rfl rfl ?_
     intro ts_ ht_; simp only [sI, sZ, sS] at ht_; subst ht_
     refine q_call (.bool true) 86 #[.int .i64 c, .int .i64 rv] (fun w'_ => by go_simp) (fun w'_ hc_ => (i_alfilref08_Has.calls c rv _ _ HHS.out).mono fun e_ w2_ h_ => ⟨h_.1, up_same hc_ h_.2⟩) rfl rfl ?_
     intro ts_ ht_; simp only [sI, sZ, sS] at ht_; subst ht_
     refine q_do (.bool true) (fun w'_ hc_ => ex_mv (.tmp 21) (.inl rfl) _ rfl) rfl rfl ?_
     intro ts_ ht_; simp only [sI, sZ, sS] at ht_; subst ht_
     refine q_do (.pointer (some ⟨g3, 0, none⟩)) (fun w'_ hc_ => ex_field 75 0 (.pointer (some ⟨g3, 0, none⟩)) (.pointer (some ⟨g3, 0, none⟩)) (kfa75_0 g3) _ rfl rfl) rfl rfl ?_
     intro ts_ ht_; simp only [sI, sZ, sS] at ht_; subst ht_
     refine q_do (.int .i64 f) (fun w'_ hc_ => by obtain ⟨n_, hn_⟩ := hc_; exact ex_get sT3 g3 0 (.int .i64 f) (#[.int .i64 f, .int .i64 o, .int .i64 p]) (by rw [hn_]; exact M2.out.k3.below n_.below M2.out.k3.lt) rfl _ rfl rfl) rfl rfl ?_
     intro ts_ ht_; simp only [sI, sZ, sS] at ht_; subst ht_
     refine q_do (.slice (some ⟨g8, 0, none⟩) 12 12) (fun w'_ hc_ => ex_mv (.tmp 5) (.inl rfl) _ rfl) rfl rfl ?_
     intro ts_ ht_; simp only [sI, sZ, sS] at ht_; subst ht_
     refine q_do (.int .i64 x6) (fun w'_ hc_ => ex_mv (.tmp 6) (.inl rfl) _ rfl) rfl rfl ?_
     intro ts_ ht_; simp only [sI, sZ, sS] at ht_; subst ht_
     refine q_do (.int .i64 (wrap64 (x6 + 1))) (fun w'_ hc_ => by go_simp) rfl rfl ?_
     intro ts_ ht_; simp only [sI, sZ, sS] at ht_; subst ht_
     refine q_do (.pointer (some ⟨g8, (wrap64 (x6 + 1)).toNat, none⟩)) (fun w'_ hc_ => k_sat g8 12 12 (wrap64 (x6 + 1)) B1.out.1 B1.out.2 us27 sT3 _ _ rfl rfl rfl) rfl rfl ?_
     intro ts_ ht_; simp only [sI, sZ, sS] at ht_; subst ht_
     refine q_do (.int .i64 rf) (fun w'_ hc_ => by obtain ⟨n_, hn_⟩ := hc_; exact ex_get sT3 g8 (wrap64 (x6 + 1)).toNat (.int .i64 rf) rowV (by rw [hn_]; exact M2.out.k8.below n_.below M2.out.k8.lt) R1.out _ rfl rfl) rfl rfl ?_
     intro ts_ ht_; simp only [sI, sZ, sS] at ht_; subst ht_
     refine q_do (.bool true) (fun w'_ hc_ => (show _ from by have h_ := X2.out; go_simp <;> (first | exact h_ | (simpa using h_)))) rfl rfl ?_
     intro ts_ ht_; simp only [sI, sZ, sS] at ht_; subst ht_
     refine q_do (.bool true) (fun w'_ hc_ => by go_simp) rfl rfl ?_
     intro ts_ ht_; simp only [sI, sZ, sS] at ht_; subst ht_
     refine q_do (.bool true) (fun w'_ hc_ => by go_simp) rfl rfl ?_
     intro ts_ ht_; simp only [sI, sZ, sS] at ht_; subst ht_
     refine q_do (.pointer (some ⟨g3, 1, none⟩)) (fun w'_ hc_ => ex_field 75 1 (.pointer (some ⟨g3, 0, none⟩)) (.pointer (some ⟨g3, 1, none⟩)) (kfa75_1 g3) _ rfl rfl) rfl rfl ?_
     intro ts_ ht_; simp only [sI, sZ, sS] at ht_; subst ht_
     refine q_do (.int .i64 o) (fun w'_ hc_ => by obtain ⟨n_, hn_⟩ := hc_; exact ex_get sT3 g3 1 (.int .i64 o) (#[.int .i64 f, .int .i64 o, .int .i64 p]) (by rw [hn_]; exact M2.out.k3.below n_.below M2.out.k3.lt) rfl _ rfl rfl) rfl rfl ?_
     intro ts_ ht_; simp only [sI, sZ, sS] at ht_; subst ht_
     refine q_do (.slice (some ⟨g8, 0, none⟩) 12 12) (fun w'_ hc_ => ex_mv (.tmp 5) (.inl rfl) _ rfl) rfl rfl ?_
     intro ts_ ht_; simp only [sI, sZ, sS] at ht_; subst ht_
     refine q_do (.int .i64 x6) (fun w'_ hc_ => ex_mv (.tmp 6) (.inl rfl) _ rfl) rfl rfl ?_
     intro ts_ ht_; simp only [sI, sZ, sS] at ht_; subst ht_
     refine q_do (.int .i64 (wrap64 (x6 + 2))) (fun w'_ hc_ => by go_simp) rfl rfl ?_
     intro ts_ ht_; simp only [sI, sZ, sS] at ht_; subst ht_
     refine q_do (.pointer (some ⟨g8, (wrap64 (x6 + 2)).toNat, none⟩)) (fun w'_ hc_ => k_sat g8 12 12 (wrap64 (x6 + 2)) B2.out.1 B2.out.2 us27 sT3 _ _ rfl rfl rfl) rfl rfl ?_
     intro ts_ ht_; simp only [sI, sZ, sS] at ht_; subst ht_
     refine q_do (.int .i64 ro) (fun w'_ hc_ => by obtain ⟨n_, hn_⟩ := hc_; exact ex_get sT3 g8 (wrap64 (x6 + 2)).toNat (.int .i64 ro) rowV (by rw [hn_]; exact M2.out.k8.below n_.below M2.out.k8.lt) R2.out _ rfl rfl) rfl rfl ?_
     intro ts_ ht_; simp only [sI, sZ, sS] at ht_; subst ht_
     refine q_do (.bool true) (fun w'_ hc_ => (show _ from by have h_ := X3.out; go_simp <;> (first | exact h_ | (simpa using h_)))) rfl rfl ?_
     intro ts_ ht_; simp only [sI, sZ, sS] at ht_; subst ht_
     refine q_do (.bool true) (fun w'_ hc_ => by go_simp) rfl rfl ?_
     intro ts_ ht_; simp only [sI, sZ, sS] at ht_; subst ht_
     refine q_do (.bool true) (fun w'_ hc_ => by go_simp) rfl rfl ?_
     intro ts_ ht_; simp only [sI, sZ, sS] at ht_; subst ht_
     refine q_do (.pointer (some ⟨g3, 0, none⟩)) (fun w'_ hc_ => ex_field 75 0 (.pointer (some ⟨g3, 0, none⟩)) (.pointer (some ⟨g3, 0, none⟩)) (kfa75_0 g3) _ rfl rfl) rfl rfl ?_
     intro ts_ ht_; simp only [sI, sZ, sS] at ht_; subst ht_
     refine q_do (.int .i64 f) (fun w'_ hc_ => by obtain ⟨n_, hn_⟩ := hc_; exact ex_get sT3 g3 0 (.int .i64 f) (#[.int .i64 f, .int .i64 o, .int .i64 p]) (by rw [hn_]; exact M2.out.k3.below n_.below M2.out.k3.lt) rfl _ rfl rfl) rfl rfl ?_
     intro ts_ ht_; simp only [sI, sZ, sS] at ht_; subst ht_
     refine q_do (.pointer (some ⟨g2, 0, none⟩)) (fun w'_ hc_ => ex_field 46 0 (.pointer (some ⟨g2, 0, none⟩)) (.pointer (some ⟨g2, 0, none⟩)) (kfa46_0 g2) _ rfl rfl) rfl rfl ?_
     intro ts_ ht_; simp only [sI, sZ, sS] at ht_; subst ht_
     refine q_do (.pointer (some ⟨g2, f.toNat, none⟩)) (fun w'_ hc_ => ex_at 44 (.pointer (some ⟨g2, 0, none⟩)) (.int .i64 f) (.pointer (some ⟨g2, f.toNat, none⟩)) (fun w_ => (run_atv 42 uT44 sT42.size g2 0 f HF0.out HF1.out w_).trans (by simp)) _ _ rfl rfl rfl) rfl rfl ?_
     intro ts_ ht_; simp only [sI, sZ, sS] at ht_; subst ht_
     refine q_do (.int .i8 (nt b f.toNat 0)) (fun w'_ hc_ => by obtain ⟨n_, hn_⟩ := hc_; exact ex_get sT42 g2 f.toNat (.int .i8 (nt b f.toNat 0)) (pv b t c e) (by rw [hn_]; exact M2.out.k2.below n_.below M2.out.k2.lt) (xv_elem 0 (by have := HB.out; have := HF0.out; have := HF1.out; omega)) _ rfl rfl) rfl rfl ?_
     intro ts_ ht_; simp only [sI, sZ, sS] at ht_; subst ht_
     refine q_do (.int .i8 rk) (fun w'_ hc_ => by go_simp) rfl rfl ?_
     intro ts_ ht_; simp only [sI, sZ, sS] at ht_; subst ht_
     refine q_do (.bool true) (fun w'_ hc_ => (show _ from by have h_ := X4.out; go_simp <;> (first | exact h_ | (simpa using h_)))) rfl rfl ?_
     intro ts_ ht_; simp only [sI, sZ, sS] at ht_; subst ht_
     refine q_do (.bool true) (fun w'_ hc_ => by go_simp) rfl rfl ?_
     intro ts_ ht_; simp only [sI, sZ, sS] at ht_; subst ht_
     refine q_do (.bool true) (fun w'_ hc_ => by go_simp) rfl rfl ?_
     intro ts_ ht_; simp only [sI, sZ, sS] at ht_; subst ht_
     refine q_do (.pointer (some ⟨g2, 0, none⟩)) (fun w'_ hc_ => ex_field 46 0 (.pointer (some ⟨g2, 0, none⟩)) (.pointer (some ⟨g2, 0, none⟩)) (kfa46_0 g2) _ rfl rfl) rfl rfl ?_
     intro ts_ ht_; simp only [sI, sZ, sS] at ht_; subst ht_
     refine q_do (.agg (bv b)) (fun w'_ hc_ => by obtain ⟨n_, hn_⟩ := hc_; exact ex_load boardT g2 0 (pv b t c e) (bv b) (by rw [hn_]; exact M2.out.k2.below n_.below M2.out.k2.lt) (xv_lea HB.out) (xv_exa HB.out) _ rfl rfl) rfl rfl ?_
     intro ts_ ht_; simp only [sI, sZ, sS] at ht_; subst ht_
     refine q_do (.slice (some ⟨g8, 0, none⟩) 12 12) (fun w'_ hc_ => ex_mv (.tmp 5) (.inl rfl) _ rfl) rfl rfl ?_
     intro ts_ ht_; simp only [sI, sZ, sS] at ht_; subst ht_
     refine q_do (.int .i64 x6) (fun w'_ hc_ => ex_mv (.tmp 6) (.inl rfl) _ rfl) rfl rfl ?_
     intro ts_ ht_; simp only [sI, sZ, sS] at ht_; subst ht_
     refine q_do (.pointer (some ⟨g8, (x6).toNat, none⟩)) (fun w'_ hc_ => k_sat g8 12 12 (x6) HQ.out.2.1 HQ.out.2.2 us27 sT3 _ _ rfl rfl rfl) rfl rfl ?_
     intro ts_ ht_; simp only [sI, sZ, sS] at ht_; subst ht_
     refine q_do (.int .i64 rv) (fun w'_ hc_ => by obtain ⟨n_, hn_⟩ := hc_; exact ex_get sT3 g8 (x6).toNat (.int .i64 rv) rowV (by rw [hn_]; exact M2.out.k8.below n_.below M2.out.k8.lt) R0.out _ rfl rfl) rfl rfl ?_
     intro ts_ ht_; simp only [sI, sZ, sS] at ht_; subst ht_
     refine q_call (.bool true) 111 #[.agg (bv b), .int .i64 rv] (fun w'_ => by go_simp) (fun w'_ hc_ => (i_alfilref09_clear.calls b rv HB.out _ _ HCL.out).mono fun e_ w2_ h_ => ⟨h_.1, up_below hc_ h_.2⟩) rfl rfl ?_
     intro ts_ ht_; simp only [sI, sZ, sS] at ht_; subst ht_
     refine q_do (.bool true) (fun w'_ hc_ => by go_simp) rfl rfl ?_
     intro ts_ ht_; simp only [sI, sZ, sS] at ht_; subst ht_
     refine q_end ?_
     rintro w8_ ⟨n_, rfl⟩
     have M3 := hid (M2.out.go n_.below)
     generalize n_.world = w9 at *
     go_wp2_with fail
     go_meet
     case rel => exact ⟨rfl, M3⟩
   case rest =>
    obtain ⟨hs_, M4⟩ := hcut
    clear M2
    subst hs_
    go_upto_if 59 with fail
    cases hy_ : (x1 && (x2 && (x3 && (x4 && x5)))) with
    | true =>
     have HZ : Hid (rgJ b c f o 4 0 = rv) := hid (by rw [HV.out, HST2.out, if_pos hy_])
     clear hy_ HST2
     go_wp2_with (first
       | ((with_reducible refine gate_d (N := 62) rfl ?_); refine ag_fix (.pointer (some ⟨g8, x6.toNat, none⟩)) (k_sat g8 12 12 x6 HQ.out.2.1 HQ.out.2.2 us27 sT3 _ _ rfl rfl rfl) rfl ?_)
       | ((with_reducible refine gate_d (N := 63) rfl ?_); refine ag_fix (.int .i64 rv) (ex_get sT3 g8 x6.toNat (.int .i64 rv) rowV M4.out.k8 R0.out _ rfl rfl) rfl ?_))
     (try simp only [Act.put, sI, sZ, sS])
     go_ret
     exact ⟨by rw [HZ.out]; rfl, M4.out.hl⟩
    | false =>
     have HV2 : Hid (rgJ b c f o 4 0 = rgJ b c f o (4 - (j + 1)) (j + 1)) := hid (by rw [HV.out, HST2.out, if_neg (by rw [hy_]; decide)])
     clear hy_ HST2
     go_wp2_with fail
     (try simp only [Act.put, sI, sZ, sS])
     go_roundg K1
     case measure => omega
     case rel => exact ⟨_, j + 1, (by first | rfl | (simp; done)), DN, hid (by have := HK2.out; omega), hid (by have := HQ.out; omega), HV2, M4⟩
theorem i_alfilref09_Right.calls (k : Nat) (a0_0 : List Int) (a0_1 : Int) (a0_2 : Int) (a0_3 : Int) (a1_0 : Int) (a1_1 : Int) (a1_2 : Int) (hla0_0 : a0_0.length = 64) (r1 : Int) (w : World) (h : i_alfilref09_Right.f k a0_0 a0_1 a0_2 a0_3 a1_0 a1_1 a1_2 = some r1) :
    Calls Try.prog 85 #[.agg (pv a0_0 a0_1 a0_2 a0_3), .agg #[.int .i64 a1_0, .int .i64 a1_1, .int .i64 a1_2]] w fun e w' => e = .returned (.int .i64 r1) ∧ Below w.heap.size w w' := by
  unfold i_alfilref09_Right.f at h
  split at h
  · rename_i h1
    obtain rfl := Option.some.inj h
    exact right_calls a0_1 a0_2 a0_3 a1_0 a1_1 a1_2 hla0_0 h1.1 h1.2 w
  · cases h
end Go.Proofs.Ytpjocgebnodnoaa
