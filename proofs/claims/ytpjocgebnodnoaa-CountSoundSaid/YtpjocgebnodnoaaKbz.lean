import Derived.Test.YtpjocgebnodnoaaKaz
import Derived.Test.YtpjocgebnodnoaaCrz
import Derived.Test.YtpjocgebnodnoaaKrz
namespace Go.Proofs.Ytpjocgebnodnoaa
open Go.RowKit
set_option linter.unusedVariables false
set_option linter.unusedSimpArgs false
set_option maxRecDepth 100000
structure PwM (w0 w : World) (b : List Int) (t c e f o p : Int) (g2 g3 : Nat) : Prop where
  hl : Below w0.heap.size w0 w
  k2 : Blk w g2 46 (pv b t c e)
  k3 : Blk w g3 75 #[.int .i64 f, .int .i64 o, .int .i64 p]
theorem PwM.go {w0 w w' : World} {b : List Int} {t c e f o p : Int} {g2 g3 : Nat} (h : PwM w0 w b t c e f o p g2 g3) (hb : Below w.heap.size w w') : PwM w0 w' b t c e f o p g2 g3 :=
  ⟨h.hl.trans (hb.mono h.hl.size), h.k2.below hb h.k2.lt, h.k3.below hb h.k3.lt⟩
def upZ (t : Int) : Int := if t = 1 then -8 else 8
def secZ (t : Int) : Int := if t = 1 then 6 else 1
def pushA (b : List Int) (t f o : Int) : Prop := nt b o.toNat 0 = 0 ∧ o = f + upZ t
def pushB (b : List Int) (t f o : Int) : Prop := nt b o.toNat 0 = 0 ∧ o = f + 2 * upZ t ∧ f / 8 = secZ t ∧ nt b (f + upZ t).toNat 0 = 0
instance (b : List Int) (t f o : Int) : Decidable (pushA b t f o) := by unfold pushA; infer_instance
instance (b : List Int) (t f o : Int) : Decidable (pushB b t f o) := by unfold pushB; infer_instance
def headIs (o : Int) (l : List Int) : Bool := nt l 0 0 == o
def pawnR (b : List Int) (t f o tk : Int) (L : List (List Int)) : Bool := decide (pushA b t f o) || (decide (pushB b t f o) || (L.any (headIs o) && decide (0 ≤ tk)))
theorem any_at {o : Int} {L : List (List Int)} {j : Nat} (hj : j < L.length) (h : headIs o (nt L j []) = true) : L.any (headIs o) = true := by
  have e : nt L j [] = L[j] := by unfold nt; simp [List.getD, List.getElem?_eq_getElem hj]
  rw [e] at h
  exact List.any_eq_true.2 ⟨_, List.getElem_mem hj, h⟩
theorem any_on {o : Int} {L : List (List Int)} {j : Nat} (hj : j < L.length) (h : headIs o (nt L j []) = false) (ht : (L.take j).any (headIs o) = false) : (L.take (j + 1)).any (headIs o) = false := by
  have e : nt L j [] = L[j] := by unfold nt; simp [List.getD, List.getElem?_eq_getElem hj]
  rw [e] at h
  rw [List.take_add_one, List.getElem?_eq_getElem hj, List.any_append, ht]
  simp [h]
set_option maxHeartbeats 40000000 in
theorem pawn_calls {b : List Int} {t c e f o p tk : Int} {L : List (List Int)} (hb : b.length = 64) (hb8 : ∀ i, -128 ≤ nt b i 0 ∧ nt b i 0 ≤ 127) (hf0 : 0 ≤ f) (hf1 : f < 64) (ht0 : 0 ≤ o) (ht1 : o < 64) (htt : t = 0 ∨ t = 1)
    (htk : i_alfilref09_Takes.f 200 b t c e f o p = some tk) (hL : i_alfilref06_Of.f 1000 (nt b f.toNat 0) f = some L) (hne : ∀ l ∈ L, l ≠ []) (hll : L.length ≤ 100) (w : World) :
    Calls Try.prog 108 #[.agg (pv b t c e), .agg #[.int .i64 f, .int .i64 o, .int .i64 p]] w fun e' w' => e' = .returned (.bool (pawnR b t f o tk L)) ∧ Below w.heap.size w w' := by
 have HL := hid (Below.refl w.heap.size w)
 have HB := hid hb
 have HF0 := hid hf0
 have HF1 := hid hf1
 have HT0 := hid ht0
 have HT1 := hid ht1
 have HTK := hid htk
 have HOF := hid hL
 have HNE : Hid (∀ j, j < L.length → 0 < (nt L j []).length) := hid (fun j hj => by
  have e_ : nt L j [] = L[j] := by unfold nt; simp [List.getD, List.getElem?_eq_getElem hj]
  rw [e_]; exact List.length_pos_iff.2 (hne _ (List.getElem_mem hj)))
 have HLL := hid hll
 have HUP : Hid (upZ t = 8 ∨ upZ t = -8) := hid (by unfold upZ; split; exact .inr rfl; exact .inl rfl)
 have HMAN : Hid (wrap64 (nt b f.toNat 0) = nt b f.toNat 0) := hid (m64 (by have := (hb8 f.toNat).1; omega) (by have := (hb8 f.toNat).2; omega))
 have HRK : Hid (i_alfilref01_Rank.f 200 f = some (f / 8)) := hid (rRank hf0 hf1 (by omega))
 go_enter Try.func108, Try.ntmps108
 have k1 := True.intro
 have k2 := True.intro
 go_upto_if 11 with (first
   | ((with_reducible refine gate_d (N := 2) rfl ?_); clear k1; obtain ⟨g2, hg2⟩ : ∃ g_, w.heap.size = g_ := ⟨_, rfl⟩; refine ag_box (pv b t c e) g2 hg2 rfl _ rfl rfl ?_; intro w2 hb_ hB_ hs_; have HL2 := hid (HL.out.trans (hb_.mono (by rw [← hg2]; exact HL.out.size))); have BK2 := hid hB_; clear hb_ hB_ hs_ hg2 HL)
   | ((with_reducible refine gate_d (N := 3) rfl ?_); clear k2; obtain ⟨g3, hg3⟩ : ∃ g_, w2.heap.size = g_ := ⟨_, rfl⟩; refine ag_box #[.int .i64 f, .int .i64 o, .int .i64 p] g3 hg3 rfl _ rfl rfl ?_; intro w3 hb_ hB_ hs_; have M : Hid (PwM w w3 b t c e f o p g2 g3) := hid ⟨HL2.out.trans (hb_.mono (by rw [← hg3]; exact HL2.out.size)), BK2.out.below hb_ (by have := BK2.out.lt; omega), hB_⟩; clear hb_ hB_ hs_ hg3 HL2 BK2)
   | ((with_reducible refine gate_d (N := 9) rfl ?_); refine ag_fix (.pointer (some ⟨g2, 64, none⟩)) (ex_field 46 1 (.pointer (some ⟨g2, 0, none⟩)) (.pointer (some ⟨g2, 64, none⟩)) (fa46_1_0 g2) _ rfl rfl) rfl ?_)
   | ((with_reducible refine gate_d (N := 10) rfl ?_); refine ag_fix (.int .i64 t) (ex_get sT3 g2 64 (.int .i64 t) (pv b t c e) M.out.k2 (pv_c1 HB.out) _ rfl rfl) rfl ?_))
 (try simp only [Act.put, sI, sZ, sS])
 go_cut [5, 6] from 9 (fun s5 s6 w' => s5 = .int .i64 (upZ t) ∧ s6 = .int .i64 (secZ t) ∧ Hid (PwM w w' b t c e f o p g2 g3))
 case first =>
  by_cases q : t = 1
  ·
   have qb : (t == 1) = true := beq_iff_eq.mpr q
   have E1 : Hid (upZ t = -8 ∧ secZ t = 6) := hid ⟨if_pos q, if_pos q⟩
   clear q
   rw [qb]
   go_wp2_with fail
   go_meet
   case rel => exact ⟨by rw [E1.out.1], by rw [E1.out.2], M⟩
  ·
   have qb : (t == 1) = false := beq_eq_false_iff_ne.mpr q
   have E1 : Hid (upZ t = 8 ∧ secZ t = 1) := hid ⟨if_neg q, if_neg q⟩
   clear q
   rw [qb]
   go_wp2_with fail
   go_meet
   case rel => exact ⟨by rw [E1.out.1], by rw [E1.out.2], M⟩
 case rest =>
  obtain ⟨hs5_, hs6_, M2⟩ := hcut
  clear M htt
  subst hs5_
  subst hs6_
  have MA : Hid (pawnR b t f o tk L = (decide (pushA b t f o) || (decide (pushB b t f o) || (L.any (headIs o) && decide (0 ≤ tk))))) := hid rfl
  obtain ⟨up, hup_⟩ : ∃ x, upZ t = x := ⟨_, rfl⟩
  obtain ⟨sec, hsec_⟩ : ∃ x, secZ t = x := ⟨_, rfl⟩
  have DA : Hid (pushA b t f o ↔ (nt b o.toNat 0 = 0 ∧ o = f + up)) := hid (by unfold pushA; rw [hup_])
  have DB : Hid (pushB b t f o ↔ (nt b o.toNat 0 = 0 ∧ o = f + 2 * up ∧ f / 8 = sec ∧ nt b (f + up).toNat 0 = 0)) := hid (by unfold pushB; rw [hup_, hsec_])
  rw [hup_] at HUP ⊢
  rw [hsec_]
  clear hup_ hsec_
  have U1 : Hid (wrap64 (f + up) = f + up) := hid (m64 (by have := HUP.out; omega) (by have := HUP.out; omega))
  have U2 : Hid (wrap64 (2 * up) = 2 * up) := hid (m64 (by have := HUP.out; omega) (by have := HUP.out; omega))
  have U3 : Hid (wrap64 (f + wrap64 (2 * up)) = f + 2 * up) := hid (by rw [U2.out]; exact m64 (by have := HUP.out; omega) (by have := HUP.out; omega))
  clear hb hb8 hf0 hf1 ht0 ht1 htk hL hne hll
  go_upto_region 6 with fail
  go_cut [26] from 9 (fun s_ w' => s_ = .bool (decide (pushA b t f o)) ∧ Hid (PwM w w' b t c e f o p g2 g3))
  case first =>
   by_cases z : nt b o.toNat 0 = 0
   ·
    have zb : (nt b o.toNat 0 == 0) = true := beq_iff_eq.mpr z
    by_cases a : o = f + up
    ·
     have ab : (o == wrap64 (f + up)) = true := beq_iff_eq.mpr (by rw [U1.out]; exact a)
     have HZ := hid z
     have HAq := hid a
     clear z a
     have QD : Hid (decide (pushA b t f o) = true) := hid (decide_eq_true (DA.out.2 ⟨HZ.out, HAq.out⟩))
     go_wp2_with (first
       | ((with_reducible refine gate_d (N := 12) rfl ?_); refine ag_fix (.pointer (some ⟨g3, 1, none⟩)) (ex_field 75 1 (.pointer (some ⟨g3, 0, none⟩)) (.pointer (some ⟨g3, 1, none⟩)) (fa75_1_0 g3) _ rfl rfl) rfl ?_)
       | ((with_reducible refine gate_d (N := 13) rfl ?_); refine ag_fix (.int .i64 o) (ex_get sT3 g3 1 (.int .i64 o) (#[.int .i64 f, .int .i64 o, .int .i64 p]) M2.out.k3 rfl _ rfl rfl) rfl ?_)
       | ((with_reducible refine gate_d (N := 14) rfl ?_); refine ag_fix (.pointer (some ⟨g2, 0, none⟩)) (ex_field 46 0 (.pointer (some ⟨g2, 0, none⟩)) (.pointer (some ⟨g2, 0, none⟩)) (fa46_0_0 g2) _ rfl rfl) rfl ?_)
       | ((with_reducible refine gate_d (N := 15) rfl ?_); refine ag_fix (.pointer (some ⟨g2, o.toNat, none⟩)) (ex_at 44 (.pointer (some ⟨g2, 0, none⟩)) (.int .i64 o) (.pointer (some ⟨g2, o.toNat, none⟩)) (fun w_ => (run_atv 42 uT44 sT42.size g2 0 o HT0.out HT1.out w_).trans (by simp)) _ _ rfl rfl rfl) rfl ?_)
       | ((with_reducible refine gate_d (N := 16) rfl ?_); refine ag_fix (.int .i8 (nt b o.toNat 0)) (ex_get sT42 g2 o.toNat (.int .i8 (nt b o.toNat 0)) (pv b t c e) M2.out.k2 (xv_elem 0 (by have := HB.out; have := HT0.out; have := HT1.out; omega)) _ rfl rfl) rfl ?_)
       | ((with_reducible refine gate_d (N := 19) rfl ?_); refine ag_fix (.pointer (some ⟨g3, 1, none⟩)) (ex_field 75 1 (.pointer (some ⟨g3, 0, none⟩)) (.pointer (some ⟨g3, 1, none⟩)) (fa75_1_0 g3) _ rfl rfl) rfl ?_)
       | ((with_reducible refine gate_d (N := 20) rfl ?_); refine ag_fix (.int .i64 o) (ex_get sT3 g3 1 (.int .i64 o) (#[.int .i64 f, .int .i64 o, .int .i64 p]) M2.out.k3 rfl _ rfl rfl) rfl ?_)
       | ((with_reducible refine gate_d (N := 21) rfl ?_); refine ag_fix (.pointer (some ⟨g3, 0, none⟩)) (ex_field 75 0 (.pointer (some ⟨g3, 0, none⟩)) (.pointer (some ⟨g3, 0, none⟩)) (fa75_0_0 g3) _ rfl rfl) rfl ?_)
       | ((with_reducible refine gate_d (N := 22) rfl ?_); refine ag_fix (.int .i64 f) (ex_get sT3 g3 0 (.int .i64 f) (#[.int .i64 f, .int .i64 o, .int .i64 p]) M2.out.k3 rfl _ rfl rfl) rfl ?_))
     (try simp only [Act.put, sI, sZ, sS])
     go_meet
     case rel => exact ⟨by rw [QD.out], M2⟩
    ·
     have ab : (o == wrap64 (f + up)) = false := beq_eq_false_iff_ne.mpr (by rw [U1.out]; exact a)
     have HZ := hid z
     have HAq := hid a
     clear z a
     have QD : Hid (decide (pushA b t f o) = false) := hid (decide_eq_false (fun h_ => HAq.out (DA.out.1 h_).2))
     go_wp2_with (first
       | ((with_reducible refine gate_d (N := 12) rfl ?_); refine ag_fix (.pointer (some ⟨g3, 1, none⟩)) (ex_field 75 1 (.pointer (some ⟨g3, 0, none⟩)) (.pointer (some ⟨g3, 1, none⟩)) (fa75_1_0 g3) _ rfl rfl) rfl ?_)
       | ((with_reducible refine gate_d (N := 13) rfl ?_); refine ag_fix (.int .i64 o) (ex_get sT3 g3 1 (.int .i64 o) (#[.int .i64 f, .int .i64 o, .int .i64 p]) M2.out.k3 rfl _ rfl rfl) rfl ?_)
       | ((with_reducible refine gate_d (N := 14) rfl ?_); refine ag_fix (.pointer (some ⟨g2, 0, none⟩)) (ex_field 46 0 (.pointer (some ⟨g2, 0, none⟩)) (.pointer (some ⟨g2, 0, none⟩)) (fa46_0_0 g2) _ rfl rfl) rfl ?_)
       | ((with_reducible refine gate_d (N := 15) rfl ?_); refine ag_fix (.pointer (some ⟨g2, o.toNat, none⟩)) (ex_at 44 (.pointer (some ⟨g2, 0, none⟩)) (.int .i64 o) (.pointer (some ⟨g2, o.toNat, none⟩)) (fun w_ => (run_atv 42 uT44 sT42.size g2 0 o HT0.out HT1.out w_).trans (by simp)) _ _ rfl rfl rfl) rfl ?_)
       | ((with_reducible refine gate_d (N := 16) rfl ?_); refine ag_fix (.int .i8 (nt b o.toNat 0)) (ex_get sT42 g2 o.toNat (.int .i8 (nt b o.toNat 0)) (pv b t c e) M2.out.k2 (xv_elem 0 (by have := HB.out; have := HT0.out; have := HT1.out; omega)) _ rfl rfl) rfl ?_)
       | ((with_reducible refine gate_d (N := 19) rfl ?_); refine ag_fix (.pointer (some ⟨g3, 1, none⟩)) (ex_field 75 1 (.pointer (some ⟨g3, 0, none⟩)) (.pointer (some ⟨g3, 1, none⟩)) (fa75_1_0 g3) _ rfl rfl) rfl ?_)
       | ((with_reducible refine gate_d (N := 20) rfl ?_); refine ag_fix (.int .i64 o) (ex_get sT3 g3 1 (.int .i64 o) (#[.int .i64 f, .int .i64 o, .int .i64 p]) M2.out.k3 rfl _ rfl rfl) rfl ?_)
       | ((with_reducible refine gate_d (N := 21) rfl ?_); refine ag_fix (.pointer (some ⟨g3, 0, none⟩)) (ex_field 75 0 (.pointer (some ⟨g3, 0, none⟩)) (.pointer (some ⟨g3, 0, none⟩)) (fa75_0_0 g3) _ rfl rfl) rfl ?_)
       | ((with_reducible refine gate_d (N := 22) rfl ?_); refine ag_fix (.int .i64 f) (ex_get sT3 g3 0 (.int .i64 f) (#[.int .i64 f, .int .i64 o, .int .i64 p]) M2.out.k3 rfl _ rfl rfl) rfl ?_))
     (try simp only [Act.put, sI, sZ, sS])
     go_meet
     case rel => exact ⟨by rw [QD.out], M2⟩
   ·
    have zb : (nt b o.toNat 0 == 0) = false := beq_eq_false_iff_ne.mpr z
    have HZ := hid z
    clear z
    have QD : Hid (decide (pushA b t f o) = false) := hid (decide_eq_false (fun h_ => HZ.out (DA.out.1 h_).1))
    go_wp2_with (first
      | ((with_reducible refine gate_d (N := 12) rfl ?_); refine ag_fix (.pointer (some ⟨g3, 1, none⟩)) (ex_field 75 1 (.pointer (some ⟨g3, 0, none⟩)) (.pointer (some ⟨g3, 1, none⟩)) (fa75_1_0 g3) _ rfl rfl) rfl ?_)
      | ((with_reducible refine gate_d (N := 13) rfl ?_); refine ag_fix (.int .i64 o) (ex_get sT3 g3 1 (.int .i64 o) (#[.int .i64 f, .int .i64 o, .int .i64 p]) M2.out.k3 rfl _ rfl rfl) rfl ?_)
      | ((with_reducible refine gate_d (N := 14) rfl ?_); refine ag_fix (.pointer (some ⟨g2, 0, none⟩)) (ex_field 46 0 (.pointer (some ⟨g2, 0, none⟩)) (.pointer (some ⟨g2, 0, none⟩)) (fa46_0_0 g2) _ rfl rfl) rfl ?_)
      | ((with_reducible refine gate_d (N := 15) rfl ?_); refine ag_fix (.pointer (some ⟨g2, o.toNat, none⟩)) (ex_at 44 (.pointer (some ⟨g2, 0, none⟩)) (.int .i64 o) (.pointer (some ⟨g2, o.toNat, none⟩)) (fun w_ => (run_atv 42 uT44 sT42.size g2 0 o HT0.out HT1.out w_).trans (by simp)) _ _ rfl rfl rfl) rfl ?_)
      | ((with_reducible refine gate_d (N := 16) rfl ?_); refine ag_fix (.int .i8 (nt b o.toNat 0)) (ex_get sT42 g2 o.toNat (.int .i8 (nt b o.toNat 0)) (pv b t c e) M2.out.k2 (xv_elem 0 (by have := HB.out; have := HT0.out; have := HT1.out; omega)) _ rfl rfl) rfl ?_)
      | ((with_reducible refine gate_d (N := 19) rfl ?_); refine ag_fix (.pointer (some ⟨g3, 1, none⟩)) (ex_field 75 1 (.pointer (some ⟨g3, 0, none⟩)) (.pointer (some ⟨g3, 1, none⟩)) (fa75_1_0 g3) _ rfl rfl) rfl ?_)
      | ((with_reducible refine gate_d (N := 20) rfl ?_); refine ag_fix (.int .i64 o) (ex_get sT3 g3 1 (.int .i64 o) (#[.int .i64 f, .int .i64 o, .int .i64 p]) M2.out.k3 rfl _ rfl rfl) rfl ?_)
      | ((with_reducible refine gate_d (N := 21) rfl ?_); refine ag_fix (.pointer (some ⟨g3, 0, none⟩)) (ex_field 75 0 (.pointer (some ⟨g3, 0, none⟩)) (.pointer (some ⟨g3, 0, none⟩)) (fa75_0_0 g3) _ rfl rfl) rfl ?_)
      | ((with_reducible refine gate_d (N := 22) rfl ?_); refine ag_fix (.int .i64 f) (ex_get sT3 g3 0 (.int .i64 f) (#[.int .i64 f, .int .i64 o, .int .i64 p]) M2.out.k3 rfl _ rfl rfl) rfl ?_))
    (try simp only [Act.put, sI, sZ, sS])
    go_meet
    case rel => exact ⟨by rw [QD.out], M2⟩
  case rest =>
   obtain ⟨hs_, M3⟩ := hcut
   clear M2
   subst hs_
   go_upto_if 26 with fail
   by_cases qa : pushA b t f o
   ·
    rw [decide_eq_true qa]
    have MR : Hid (pawnR b t f o tk L = true) := hid (by rw [MA.out, decide_eq_true qa]; rfl)
    clear qa
    go_wp2_with fail
    go_ret
    exact ⟨by rw [MR.out]; rfl, M3.out.hl⟩
   ·
    rw [decide_eq_false qa]
    have HQA := hid qa
    clear qa
    go_upto_region 8 with fail
    go_cut [59] from 9 (fun s_ w' => s_ = .bool (decide (pushB b t f o)) ∧ Hid (PwM w w' b t c e f o p g2 g3))
    case first =>
     have k3 := True.intro
     by_cases z : nt b o.toNat 0 = 0
     ·
      have zb : (nt b o.toNat 0 == 0) = true := beq_iff_eq.mpr z
      have HZ := hid z
      clear z
      by_cases a : o = f + 2 * up
      ·
       have ab : (o == wrap64 (f + wrap64 (2 * up))) = true := beq_iff_eq.mpr (by rw [U3.out]; exact a)
       have HAq := hid a
       have HU : Hid (0 ≤ wrap64 (f + up) ∧ wrap64 (f + up) < 64) := hid (by rw [U1.out]; have := HUP.out; have := HF0.out; have := HF1.out; have := HT0.out; have := HT1.out; omega)
       clear a
       by_cases r : f / 8 = sec
       ·
        have rb : ((f / 8) == sec) = true := beq_iff_eq.mpr r
        have HRq := hid r
        clear r
        by_cases y : nt b (f + up).toNat 0 = 0
        ·
         have yb : (nt b (wrap64 (f + up)).toNat 0 == 0) = true := beq_iff_eq.mpr (by rw [U1.out]; exact y)
         have HY := hid y
         clear y
         have QD : Hid (decide (pushB b t f o) = true) := hid (decide_eq_true (DB.out.2 ⟨HZ.out, HAq.out, HRq.out, HY.out⟩))
         go_wp2_with (first
           | ((with_reducible refine gate_d (N := 27) rfl ?_); refine ag_fix (.pointer (some ⟨g3, 1, none⟩)) (ex_field 75 1 (.pointer (some ⟨g3, 0, none⟩)) (.pointer (some ⟨g3, 1, none⟩)) (fa75_1_0 g3) _ rfl rfl) rfl ?_)
           | ((with_reducible refine gate_d (N := 28) rfl ?_); refine ag_fix (.int .i64 o) (ex_get sT3 g3 1 (.int .i64 o) (#[.int .i64 f, .int .i64 o, .int .i64 p]) M3.out.k3 rfl _ rfl rfl) rfl ?_)
           | ((with_reducible refine gate_d (N := 29) rfl ?_); refine ag_fix (.pointer (some ⟨g2, 0, none⟩)) (ex_field 46 0 (.pointer (some ⟨g2, 0, none⟩)) (.pointer (some ⟨g2, 0, none⟩)) (fa46_0_0 g2) _ rfl rfl) rfl ?_)
           | ((with_reducible refine gate_d (N := 30) rfl ?_); refine ag_fix (.pointer (some ⟨g2, o.toNat, none⟩)) (ex_at 44 (.pointer (some ⟨g2, 0, none⟩)) (.int .i64 o) (.pointer (some ⟨g2, o.toNat, none⟩)) (fun w_ => (run_atv 42 uT44 sT42.size g2 0 o HT0.out HT1.out w_).trans (by simp)) _ _ rfl rfl rfl) rfl ?_)
           | ((with_reducible refine gate_d (N := 31) rfl ?_); refine ag_fix (.int .i8 (nt b o.toNat 0)) (ex_get sT42 g2 o.toNat (.int .i8 (nt b o.toNat 0)) (pv b t c e) M3.out.k2 (xv_elem 0 (by have := HB.out; have := HT0.out; have := HT1.out; omega)) _ rfl rfl) rfl ?_)
           | ((with_reducible refine gate_d (N := 34) rfl ?_); refine ag_fix (.pointer (some ⟨g3, 1, none⟩)) (ex_field 75 1 (.pointer (some ⟨g3, 0, none⟩)) (.pointer (some ⟨g3, 1, none⟩)) (fa75_1_0 g3) _ rfl rfl) rfl ?_)
           | ((with_reducible refine gate_d (N := 35) rfl ?_); refine ag_fix (.int .i64 o) (ex_get sT3 g3 1 (.int .i64 o) (#[.int .i64 f, .int .i64 o, .int .i64 p]) M3.out.k3 rfl _ rfl rfl) rfl ?_)
           | ((with_reducible refine gate_d (N := 36) rfl ?_); refine ag_fix (.pointer (some ⟨g3, 0, none⟩)) (ex_field 75 0 (.pointer (some ⟨g3, 0, none⟩)) (.pointer (some ⟨g3, 0, none⟩)) (fa75_0_0 g3) _ rfl rfl) rfl ?_)
           | ((with_reducible refine gate_d (N := 37) rfl ?_); refine ag_fix (.int .i64 f) (ex_get sT3 g3 0 (.int .i64 f) (#[.int .i64 f, .int .i64 o, .int .i64 p]) M3.out.k3 rfl _ rfl rfl) rfl ?_)
           | ((with_reducible refine gate_d (N := 44) rfl ?_); refine ag_fix (.pointer (some ⟨g3, 0, none⟩)) (ex_field 75 0 (.pointer (some ⟨g3, 0, none⟩)) (.pointer (some ⟨g3, 0, none⟩)) (fa75_0_0 g3) _ rfl rfl) rfl ?_)
           | ((with_reducible refine gate_d (N := 45) rfl ?_); refine ag_fix (.int .i64 f) (ex_get sT3 g3 0 (.int .i64 f) (#[.int .i64 f, .int .i64 o, .int .i64 p]) M3.out.k3 rfl _ rfl rfl) rfl ?_)
           | (go_at_call 77; clear k3; refine (i_alfilref01_Rank.calls 200 f (f / 8) _ HRK.out).mono ?_; rintro e_ w_ ⟨rfl, rfl⟩)
           | ((with_reducible refine gate_d (N := 51) rfl ?_); refine ag_fix (.pointer (some ⟨g3, 0, none⟩)) (ex_field 75 0 (.pointer (some ⟨g3, 0, none⟩)) (.pointer (some ⟨g3, 0, none⟩)) (fa75_0_0 g3) _ rfl rfl) rfl ?_)
           | ((with_reducible refine gate_d (N := 52) rfl ?_); refine ag_fix (.int .i64 f) (ex_get sT3 g3 0 (.int .i64 f) (#[.int .i64 f, .int .i64 o, .int .i64 p]) M3.out.k3 rfl _ rfl rfl) rfl ?_)
           | ((with_reducible refine gate_d (N := 55) rfl ?_); refine ag_fix (.pointer (some ⟨g2, 0, none⟩)) (ex_field 46 0 (.pointer (some ⟨g2, 0, none⟩)) (.pointer (some ⟨g2, 0, none⟩)) (fa46_0_0 g2) _ rfl rfl) rfl ?_)
           | ((with_reducible refine gate_d (N := 56) rfl ?_); refine ag_fix (.pointer (some ⟨g2, (wrap64 (f + up)).toNat, none⟩)) (ex_at 44 (.pointer (some ⟨g2, 0, none⟩)) (.int .i64 (wrap64 (f + up))) (.pointer (some ⟨g2, (wrap64 (f + up)).toNat, none⟩)) (fun w_ => (run_atv 42 uT44 sT42.size g2 0 (wrap64 (f + up)) HU.out.1 HU.out.2 w_).trans (by simp)) _ _ rfl rfl rfl) rfl ?_)
           | ((with_reducible refine gate_d (N := 57) rfl ?_); refine ag_fix (.int .i8 (nt b (wrap64 (f + up)).toNat 0)) (ex_get sT42 g2 (wrap64 (f + up)).toNat (.int .i8 (nt b (wrap64 (f + up)).toNat 0)) (pv b t c e) M3.out.k2 (xv_elem 0 (by have := HB.out; have := HU.out; omega)) _ rfl rfl) rfl ?_))
         (try simp only [Act.put, sI, sZ, sS])
         go_meet
         case rel => exact ⟨by rw [QD.out], M3⟩
        ·
         have yb : (nt b (wrap64 (f + up)).toNat 0 == 0) = false := beq_eq_false_iff_ne.mpr (by rw [U1.out]; exact y)
         have HY := hid y
         clear y
         have QD : Hid (decide (pushB b t f o) = false) := hid (decide_eq_false (fun h_ => HY.out (DB.out.1 h_).2.2.2))
         go_wp2_with (first
           | ((with_reducible refine gate_d (N := 27) rfl ?_); refine ag_fix (.pointer (some ⟨g3, 1, none⟩)) (ex_field 75 1 (.pointer (some ⟨g3, 0, none⟩)) (.pointer (some ⟨g3, 1, none⟩)) (fa75_1_0 g3) _ rfl rfl) rfl ?_)
           | ((with_reducible refine gate_d (N := 28) rfl ?_); refine ag_fix (.int .i64 o) (ex_get sT3 g3 1 (.int .i64 o) (#[.int .i64 f, .int .i64 o, .int .i64 p]) M3.out.k3 rfl _ rfl rfl) rfl ?_)
           | ((with_reducible refine gate_d (N := 29) rfl ?_); refine ag_fix (.pointer (some ⟨g2, 0, none⟩)) (ex_field 46 0 (.pointer (some ⟨g2, 0, none⟩)) (.pointer (some ⟨g2, 0, none⟩)) (fa46_0_0 g2) _ rfl rfl) rfl ?_)
           | ((with_reducible refine gate_d (N := 30) rfl ?_); refine ag_fix (.pointer (some ⟨g2, o.toNat, none⟩)) (ex_at 44 (.pointer (some ⟨g2, 0, none⟩)) (.int .i64 o) (.pointer (some ⟨g2, o.toNat, none⟩)) (fun w_ => (run_atv 42 uT44 sT42.size g2 0 o HT0.out HT1.out w_).trans (by simp)) _ _ rfl rfl rfl) rfl ?_)
           | ((with_reducible refine gate_d (N := 31) rfl ?_); refine ag_fix (.int .i8 (nt b o.toNat 0)) (ex_get sT42 g2 o.toNat (.int .i8 (nt b o.toNat 0)) (pv b t c e) M3.out.k2 (xv_elem 0 (by have := HB.out; have := HT0.out; have := HT1.out; omega)) _ rfl rfl) rfl ?_)
           | ((with_reducible refine gate_d (N := 34) rfl ?_); refine ag_fix (.pointer (some ⟨g3, 1, none⟩)) (ex_field 75 1 (.pointer (some ⟨g3, 0, none⟩)) (.pointer (some ⟨g3, 1, none⟩)) (fa75_1_0 g3) _ rfl rfl) rfl ?_)
           | ((with_reducible refine gate_d (N := 35) rfl ?_); refine ag_fix (.int .i64 o) (ex_get sT3 g3 1 (.int .i64 o) (#[.int .i64 f, .int .i64 o, .int .i64 p]) M3.out.k3 rfl _ rfl rfl) rfl ?_)
           | ((with_reducible refine gate_d (N := 36) rfl ?_); refine ag_fix (.pointer (some ⟨g3, 0, none⟩)) (ex_field 75 0 (.pointer (some ⟨g3, 0, none⟩)) (.pointer (some ⟨g3, 0, none⟩)) (fa75_0_0 g3) _ rfl rfl) rfl ?_)
           | ((with_reducible refine gate_d (N := 37) rfl ?_); refine ag_fix (.int .i64 f) (ex_get sT3 g3 0 (.int .i64 f) (#[.int .i64 f, .int .i64 o, .int .i64 p]) M3.out.k3 rfl _ rfl rfl) rfl ?_)
           | ((with_reducible refine gate_d (N := 44) rfl ?_); refine ag_fix (.pointer (some ⟨g3, 0, none⟩)) (ex_field 75 0 (.pointer (some ⟨g3, 0, none⟩)) (.pointer (some ⟨g3, 0, none⟩)) (fa75_0_0 g3) _ rfl rfl) rfl ?_)
           | ((with_reducible refine gate_d (N := 45) rfl ?_); refine ag_fix (.int .i64 f) (ex_get sT3 g3 0 (.int .i64 f) (#[.int .i64 f, .int .i64 o, .int .i64 p]) M3.out.k3 rfl _ rfl rfl) rfl ?_)
           | (go_at_call 77; clear k3; refine (i_alfilref01_Rank.calls 200 f (f / 8) _ HRK.out).mono ?_; rintro e_ w_ ⟨rfl, rfl⟩)
           | ((with_reducible refine gate_d (N := 51) rfl ?_); refine ag_fix (.pointer (some ⟨g3, 0, none⟩)) (ex_field 75 0 (.pointer (some ⟨g3, 0, none⟩)) (.pointer (some ⟨g3, 0, none⟩)) (fa75_0_0 g3) _ rfl rfl) rfl ?_)
           | ((with_reducible refine gate_d (N := 52) rfl ?_); refine ag_fix (.int .i64 f) (ex_get sT3 g3 0 (.int .i64 f) (#[.int .i64 f, .int .i64 o, .int .i64 p]) M3.out.k3 rfl _ rfl rfl) rfl ?_)
           | ((with_reducible refine gate_d (N := 55) rfl ?_); refine ag_fix (.pointer (some ⟨g2, 0, none⟩)) (ex_field 46 0 (.pointer (some ⟨g2, 0, none⟩)) (.pointer (some ⟨g2, 0, none⟩)) (fa46_0_0 g2) _ rfl rfl) rfl ?_)
           | ((with_reducible refine gate_d (N := 56) rfl ?_); refine ag_fix (.pointer (some ⟨g2, (wrap64 (f + up)).toNat, none⟩)) (ex_at 44 (.pointer (some ⟨g2, 0, none⟩)) (.int .i64 (wrap64 (f + up))) (.pointer (some ⟨g2, (wrap64 (f + up)).toNat, none⟩)) (fun w_ => (run_atv 42 uT44 sT42.size g2 0 (wrap64 (f + up)) HU.out.1 HU.out.2 w_).trans (by simp)) _ _ rfl rfl rfl) rfl ?_)
           | ((with_reducible refine gate_d (N := 57) rfl ?_); refine ag_fix (.int .i8 (nt b (wrap64 (f + up)).toNat 0)) (ex_get sT42 g2 (wrap64 (f + up)).toNat (.int .i8 (nt b (wrap64 (f + up)).toNat 0)) (pv b t c e) M3.out.k2 (xv_elem 0 (by have := HB.out; have := HU.out; omega)) _ rfl rfl) rfl ?_))
         (try simp only [Act.put, sI, sZ, sS])
         go_meet
         case rel => exact ⟨by rw [QD.out], M3⟩
       ·
        have rb : ((f / 8) == sec) = false := beq_eq_false_iff_ne.mpr r
        have HRq := hid r
        clear r
        have QD : Hid (decide (pushB b t f o) = false) := hid (decide_eq_false (fun h_ => HRq.out (DB.out.1 h_).2.2.1))
        go_wp2_with (first
          | ((with_reducible refine gate_d (N := 27) rfl ?_); refine ag_fix (.pointer (some ⟨g3, 1, none⟩)) (ex_field 75 1 (.pointer (some ⟨g3, 0, none⟩)) (.pointer (some ⟨g3, 1, none⟩)) (fa75_1_0 g3) _ rfl rfl) rfl ?_)
          | ((with_reducible refine gate_d (N := 28) rfl ?_); refine ag_fix (.int .i64 o) (ex_get sT3 g3 1 (.int .i64 o) (#[.int .i64 f, .int .i64 o, .int .i64 p]) M3.out.k3 rfl _ rfl rfl) rfl ?_)
          | ((with_reducible refine gate_d (N := 29) rfl ?_); refine ag_fix (.pointer (some ⟨g2, 0, none⟩)) (ex_field 46 0 (.pointer (some ⟨g2, 0, none⟩)) (.pointer (some ⟨g2, 0, none⟩)) (fa46_0_0 g2) _ rfl rfl) rfl ?_)
          | ((with_reducible refine gate_d (N := 30) rfl ?_); refine ag_fix (.pointer (some ⟨g2, o.toNat, none⟩)) (ex_at 44 (.pointer (some ⟨g2, 0, none⟩)) (.int .i64 o) (.pointer (some ⟨g2, o.toNat, none⟩)) (fun w_ => (run_atv 42 uT44 sT42.size g2 0 o HT0.out HT1.out w_).trans (by simp)) _ _ rfl rfl rfl) rfl ?_)
          | ((with_reducible refine gate_d (N := 31) rfl ?_); refine ag_fix (.int .i8 (nt b o.toNat 0)) (ex_get sT42 g2 o.toNat (.int .i8 (nt b o.toNat 0)) (pv b t c e) M3.out.k2 (xv_elem 0 (by have := HB.out; have := HT0.out; have := HT1.out; omega)) _ rfl rfl) rfl ?_)
          | ((with_reducible refine gate_d (N := 34) rfl ?_); refine ag_fix (.pointer (some ⟨g3, 1, none⟩)) (ex_field 75 1 (.pointer (some ⟨g3, 0, none⟩)) (.pointer (some ⟨g3, 1, none⟩)) (fa75_1_0 g3) _ rfl rfl) rfl ?_)
          | ((with_reducible refine gate_d (N := 35) rfl ?_); refine ag_fix (.int .i64 o) (ex_get sT3 g3 1 (.int .i64 o) (#[.int .i64 f, .int .i64 o, .int .i64 p]) M3.out.k3 rfl _ rfl rfl) rfl ?_)
          | ((with_reducible refine gate_d (N := 36) rfl ?_); refine ag_fix (.pointer (some ⟨g3, 0, none⟩)) (ex_field 75 0 (.pointer (some ⟨g3, 0, none⟩)) (.pointer (some ⟨g3, 0, none⟩)) (fa75_0_0 g3) _ rfl rfl) rfl ?_)
          | ((with_reducible refine gate_d (N := 37) rfl ?_); refine ag_fix (.int .i64 f) (ex_get sT3 g3 0 (.int .i64 f) (#[.int .i64 f, .int .i64 o, .int .i64 p]) M3.out.k3 rfl _ rfl rfl) rfl ?_)
          | ((with_reducible refine gate_d (N := 44) rfl ?_); refine ag_fix (.pointer (some ⟨g3, 0, none⟩)) (ex_field 75 0 (.pointer (some ⟨g3, 0, none⟩)) (.pointer (some ⟨g3, 0, none⟩)) (fa75_0_0 g3) _ rfl rfl) rfl ?_)
          | ((with_reducible refine gate_d (N := 45) rfl ?_); refine ag_fix (.int .i64 f) (ex_get sT3 g3 0 (.int .i64 f) (#[.int .i64 f, .int .i64 o, .int .i64 p]) M3.out.k3 rfl _ rfl rfl) rfl ?_)
          | (go_at_call 77; clear k3; refine (i_alfilref01_Rank.calls 200 f (f / 8) _ HRK.out).mono ?_; rintro e_ w_ ⟨rfl, rfl⟩)
          | ((with_reducible refine gate_d (N := 51) rfl ?_); refine ag_fix (.pointer (some ⟨g3, 0, none⟩)) (ex_field 75 0 (.pointer (some ⟨g3, 0, none⟩)) (.pointer (some ⟨g3, 0, none⟩)) (fa75_0_0 g3) _ rfl rfl) rfl ?_)
          | ((with_reducible refine gate_d (N := 52) rfl ?_); refine ag_fix (.int .i64 f) (ex_get sT3 g3 0 (.int .i64 f) (#[.int .i64 f, .int .i64 o, .int .i64 p]) M3.out.k3 rfl _ rfl rfl) rfl ?_)
          | ((with_reducible refine gate_d (N := 55) rfl ?_); refine ag_fix (.pointer (some ⟨g2, 0, none⟩)) (ex_field 46 0 (.pointer (some ⟨g2, 0, none⟩)) (.pointer (some ⟨g2, 0, none⟩)) (fa46_0_0 g2) _ rfl rfl) rfl ?_))
        (try simp only [Act.put, sI, sZ, sS])
        go_meet
        case rel => exact ⟨by rw [QD.out], M3⟩
      ·
       have ab : (o == wrap64 (f + wrap64 (2 * up))) = false := beq_eq_false_iff_ne.mpr (by rw [U3.out]; exact a)
       have HAq := hid a
       clear a
       have QD : Hid (decide (pushB b t f o) = false) := hid (decide_eq_false (fun h_ => HAq.out (DB.out.1 h_).2.1))
       go_wp2_with (first
         | ((with_reducible refine gate_d (N := 27) rfl ?_); refine ag_fix (.pointer (some ⟨g3, 1, none⟩)) (ex_field 75 1 (.pointer (some ⟨g3, 0, none⟩)) (.pointer (some ⟨g3, 1, none⟩)) (fa75_1_0 g3) _ rfl rfl) rfl ?_)
         | ((with_reducible refine gate_d (N := 28) rfl ?_); refine ag_fix (.int .i64 o) (ex_get sT3 g3 1 (.int .i64 o) (#[.int .i64 f, .int .i64 o, .int .i64 p]) M3.out.k3 rfl _ rfl rfl) rfl ?_)
         | ((with_reducible refine gate_d (N := 29) rfl ?_); refine ag_fix (.pointer (some ⟨g2, 0, none⟩)) (ex_field 46 0 (.pointer (some ⟨g2, 0, none⟩)) (.pointer (some ⟨g2, 0, none⟩)) (fa46_0_0 g2) _ rfl rfl) rfl ?_)
         | ((with_reducible refine gate_d (N := 30) rfl ?_); refine ag_fix (.pointer (some ⟨g2, o.toNat, none⟩)) (ex_at 44 (.pointer (some ⟨g2, 0, none⟩)) (.int .i64 o) (.pointer (some ⟨g2, o.toNat, none⟩)) (fun w_ => (run_atv 42 uT44 sT42.size g2 0 o HT0.out HT1.out w_).trans (by simp)) _ _ rfl rfl rfl) rfl ?_)
         | ((with_reducible refine gate_d (N := 31) rfl ?_); refine ag_fix (.int .i8 (nt b o.toNat 0)) (ex_get sT42 g2 o.toNat (.int .i8 (nt b o.toNat 0)) (pv b t c e) M3.out.k2 (xv_elem 0 (by have := HB.out; have := HT0.out; have := HT1.out; omega)) _ rfl rfl) rfl ?_)
         | ((with_reducible refine gate_d (N := 34) rfl ?_); refine ag_fix (.pointer (some ⟨g3, 1, none⟩)) (ex_field 75 1 (.pointer (some ⟨g3, 0, none⟩)) (.pointer (some ⟨g3, 1, none⟩)) (fa75_1_0 g3) _ rfl rfl) rfl ?_)
         | ((with_reducible refine gate_d (N := 35) rfl ?_); refine ag_fix (.int .i64 o) (ex_get sT3 g3 1 (.int .i64 o) (#[.int .i64 f, .int .i64 o, .int .i64 p]) M3.out.k3 rfl _ rfl rfl) rfl ?_)
         | ((with_reducible refine gate_d (N := 36) rfl ?_); refine ag_fix (.pointer (some ⟨g3, 0, none⟩)) (ex_field 75 0 (.pointer (some ⟨g3, 0, none⟩)) (.pointer (some ⟨g3, 0, none⟩)) (fa75_0_0 g3) _ rfl rfl) rfl ?_)
         | ((with_reducible refine gate_d (N := 37) rfl ?_); refine ag_fix (.int .i64 f) (ex_get sT3 g3 0 (.int .i64 f) (#[.int .i64 f, .int .i64 o, .int .i64 p]) M3.out.k3 rfl _ rfl rfl) rfl ?_))
       (try simp only [Act.put, sI, sZ, sS])
       go_meet
       case rel => exact ⟨by rw [QD.out], M3⟩
     ·
      have zb : (nt b o.toNat 0 == 0) = false := beq_eq_false_iff_ne.mpr z
      have HZ := hid z
      clear z
      have QD : Hid (decide (pushB b t f o) = false) := hid (decide_eq_false (fun h_ => HZ.out (DB.out.1 h_).1))
      go_wp2_with (first
        | ((with_reducible refine gate_d (N := 27) rfl ?_); refine ag_fix (.pointer (some ⟨g3, 1, none⟩)) (ex_field 75 1 (.pointer (some ⟨g3, 0, none⟩)) (.pointer (some ⟨g3, 1, none⟩)) (fa75_1_0 g3) _ rfl rfl) rfl ?_)
        | ((with_reducible refine gate_d (N := 28) rfl ?_); refine ag_fix (.int .i64 o) (ex_get sT3 g3 1 (.int .i64 o) (#[.int .i64 f, .int .i64 o, .int .i64 p]) M3.out.k3 rfl _ rfl rfl) rfl ?_)
        | ((with_reducible refine gate_d (N := 29) rfl ?_); refine ag_fix (.pointer (some ⟨g2, 0, none⟩)) (ex_field 46 0 (.pointer (some ⟨g2, 0, none⟩)) (.pointer (some ⟨g2, 0, none⟩)) (fa46_0_0 g2) _ rfl rfl) rfl ?_)
        | ((with_reducible refine gate_d (N := 30) rfl ?_); refine ag_fix (.pointer (some ⟨g2, o.toNat, none⟩)) (ex_at 44 (.pointer (some ⟨g2, 0, none⟩)) (.int .i64 o) (.pointer (some ⟨g2, o.toNat, none⟩)) (fun w_ => (run_atv 42 uT44 sT42.size g2 0 o HT0.out HT1.out w_).trans (by simp)) _ _ rfl rfl rfl) rfl ?_)
        | ((with_reducible refine gate_d (N := 31) rfl ?_); refine ag_fix (.int .i8 (nt b o.toNat 0)) (ex_get sT42 g2 o.toNat (.int .i8 (nt b o.toNat 0)) (pv b t c e) M3.out.k2 (xv_elem 0 (by have := HB.out; have := HT0.out; have := HT1.out; omega)) _ rfl rfl) rfl ?_))
      (try simp only [Act.put, sI, sZ, sS])
      go_meet
      case rel => exact ⟨by rw [QD.out], M3⟩
    case rest =>
     obtain ⟨hs_, M4⟩ := hcut
     clear M3
     subst hs_
     go_upto_if 59 with fail
     by_cases qb : pushB b t f o
     ·
      rw [decide_eq_true qb]
      have MR : Hid (pawnR b t f o tk L = true) := hid (by rw [MA.out, decide_eq_true qb]; simp)
      clear qb
      go_wp2_with fail
      go_ret
      exact ⟨by rw [MR.out]; rfl, M4.out.hl⟩
     ·
      rw [decide_eq_false qb]
      have MR : Hid (pawnR b t f o tk L = (L.any (headIs o) && decide (0 ≤ tk))) := hid (by rw [MA.out, decide_eq_false qb, decide_eq_false HQA.out]; rfl)
      clear qb MA DA DB U1 U2 U3 HQA
      go_upto_region 10 with fail
      have WR64 := i64_w
      refine sq_region (fun w'_ => Blk w'_ g2 46 (pv b t c e) ∧ Blk w'_ g3 75 #[.int .i64 f, .int .i64 o, .int .i64 p]) [] [(0, 2), (1, 1), (2, 2), (3, 2), (4, 1), (5, 2), (6, 2), (7, 1), (8, 0), (9, 2)] (by kernel_rfl) (by kernel_rfl) (by kernel_rfl) rfl ?_
      intro w5 hb_
      have M5 := hid (M4.out.go hb_)
      clear hb_ M4
      refine sq_pure (.pointer (some ⟨g3, 0, none⟩)) rfl (fun w'_ => ex_field 75 0 (.pointer (some ⟨g3, 0, none⟩)) (.pointer (some ⟨g3, 0, none⟩)) (fa75_0_0 g3) _ rfl rfl) rfl rfl ?_
      intro ts_ ht_; simp only [sI, sZ, sS] at ht_; subst ht_
      refine sq_take (.int .i64 f) ⟨M5.out.k2, M5.out.k3⟩ rfl (fun w'_ hS_ => ex_get sT3 g3 0 (.int .i64 f) (#[.int .i64 f, .int .i64 o, .int .i64 p]) hS_.2 rfl _ rfl rfl) rfl rfl ?_
      intro ts_ ht_; simp only [sI, sZ, sS] at ht_; subst ht_
      refine sq_pure (.pointer (some ⟨g2, 0, none⟩)) rfl (fun w'_ => ex_field 46 0 (.pointer (some ⟨g2, 0, none⟩)) (.pointer (some ⟨g2, 0, none⟩)) (fa46_0_0 g2) _ rfl rfl) rfl rfl ?_
      intro ts_ ht_; simp only [sI, sZ, sS] at ht_; subst ht_
      refine sq_pure (.pointer (some ⟨g2, f.toNat, none⟩)) rfl (fun w'_ => ex_at 44 (.pointer (some ⟨g2, 0, none⟩)) (.int .i64 f) (.pointer (some ⟨g2, f.toNat, none⟩)) (fun w_ => (run_atv 42 uT44 sT42.size g2 0 f HF0.out HF1.out w_).trans (by simp)) _ _ rfl rfl rfl) rfl rfl ?_
      intro ts_ ht_; simp only [sI, sZ, sS] at ht_; subst ht_
      refine sq_take (.int .i8 (nt b f.toNat 0)) ⟨M5.out.k2, M5.out.k3⟩ rfl (fun w'_ hS_ => ex_get sT42 g2 f.toNat (.int .i8 (nt b f.toNat 0)) (pv b t c e) hS_.1 (xv_elem 0 (by have := HB.out; have := HF0.out; have := HF1.out; omega)) _ rfl rfl) rfl rfl ?_
      intro ts_ ht_; simp only [sI, sZ, sS] at ht_; subst ht_
      refine sq_pure (.int .i64 (nt b f.toNat 0)) rfl (fun w'_ => (show _ from by go_simp; first | exact HMAN.out | (rw [i64_w]; exact HMAN.out))) rfl rfl ?_
      intro ts_ ht_; simp only [sI, sZ, sS] at ht_; subst ht_
      refine sq_pure (.pointer (some ⟨g3, 0, none⟩)) rfl (fun w'_ => ex_field 75 0 (.pointer (some ⟨g3, 0, none⟩)) (.pointer (some ⟨g3, 0, none⟩)) (fa75_0_0 g3) _ rfl rfl) rfl rfl ?_
      intro ts_ ht_; simp only [sI, sZ, sS] at ht_; subst ht_
      refine sq_take (.int .i64 f) ⟨M5.out.k2, M5.out.k3⟩ rfl (fun w'_ hS_ => ex_get sT3 g3 0 (.int .i64 f) (#[.int .i64 f, .int .i64 o, .int .i64 p]) hS_.2 rfl _ rfl rfl) rfl rfl ?_
      intro ts_ ht_; simp only [sI, sZ, sS] at ht_; subst ht_
      refine sq_act rfl (fun Q'_ hQ_ => ?_)
      refine wl_call 55 #[.int .i64 (nt b f.toNat 0), .int .i64 f] (by go_simp) rfl ((i_alfilref06_Of.calls 1000 (nt b f.toNat 0) f L _ HOF.out).mono ?_)
      rintro e_ w6 ⟨uL, rfl, so_, hb_⟩
      have M6 := hid (M5.out.go hb_)
      have SO6 := hid so_.slS
      clear hb_ so_ M5
      refine ⟨_, rfl, ?_⟩
      refine hQ_ _ _ (fun _ => ⟨M6.out.k2, M6.out.k3⟩) ?_
      clear hQ_ Q'_
      simp only [Act.put, sI, sZ, sS]
      refine sq_pure (uL) rfl (fun w'_ => by go_simp) rfl rfl ?_
      intro ts_ ht_; simp only [sI, sZ, sS] at ht_; subst ht_
      refine sq_end ?_
      clear WR64
      go_wp2_with fail
      (try simp only [Act.put, sI, sZ, sS])
      go_loopg [8] (L.length + 1) (fun kq v8 w' => ∃ (x8 : Int) (j : Nat), v8 = .int .i64 x8 ∧ Hid (x8 = (j : Int)) ∧ Hid (kq + j = L.length + 1) ∧ Hid (j ≤ L.length) ∧ Hid ((L.take j).any (headIs o) = false) ∧ Hid (SlS w' 27 3 (Value.int .i64) uL L) ∧ Hid (PwM w w' b t c e f o p g2 g3))
      case atStart => exact ⟨0, 0, (by first | rfl | (simp; done)), hid rfl, hid (by omega), hid (by omega), hid rfl, SO6, M6⟩
      case round =>
       clear SO6 M6
       obtain ⟨x8, j, rfl, HJ, HK2, HJM, HAN, SO, M⟩ := hrel
       obtain ⟨K1, rfl⟩ : ∃ K_, gk = K_ + 1 := ⟨gk - 1, by have := HK2.out; have := HJM.out; omega⟩
       by_cases q : x8 < (L.length : Int)
       ·
        have qb : decide (x8 < (L.length : Int)) = true := decide_eq_true q
        have HC := hid q
        clear q
        have HJ0 : Hid (0 ≤ x8) := hid (by have := HJ.out; omega)
        have HJL : Hid (j < L.length) := hid (by have := HJ.out; have := HC.out; omega)
        obtain ⟨l, hl_⟩ : ∃ l, nt L j [] = l := ⟨_, rfl⟩
        have HLJ := hid hl_
        have HLP : Hid ((0 : Int) < (l.length : Int)) := hid (by rw [← hl_]; have := HNE.out j HJL.out; omega)
        obtain ⟨ad, cap, ul, hv_, hc_, hs_⟩ := SlS.get SO.out (i := x8) HJ0.out HC.out
        rw [show x8.toNat = j by have := HJ.out; omega, hl_] at hs_
        have HV := hid hv_
        have HCE := hid hc_
        obtain ⟨ad2, cap2, hv2_, hc2_⟩ := Sl.get (l := l) (f := Value.int .i64) hs_.sl 0 (i := (0 : Int)) (Int.le_refl _) HLP.out
        obtain ⟨h0, hh0_⟩ : ∃ x, nt l (0 : Int).toNat 0 = x := ⟨_, rfl⟩
        rw [hh0_] at hc2_
        have HV2 : Hid (ul = .slice (some ad2) l.length cap2) := hid (by first | exact hv2_ | rw [hv2_, List.length_map])
        have HCE2 := hid hc2_
        have HH0 := hid hh0_
        clear hl_ hv_ hc_ hs_ hv2_ hc2_ hh0_
        go_upto_region 14 with (first
         | ((with_reducible refine gate_d (N := 71) rfl ?_); obtain ⟨A_, c_, hv_⟩ := SO.out.shape; refine ag_fix (.int .i64 (L.length : Int)) (ex_len us92 _ _ _ _ hv_ _ rfl rfl) rfl ?_; clear hv_))
        (try simp only [Act.put, sI, sZ, sS])
        have WR64 := i64_w
        refine sq_region (fun w'_ => w'_.cell? (ad.add x8.toNat) = some ul ∧ w'_.cell? (ad2.add (0 : Int).toNat) = some (.int .i64 h0) ∧ Blk w'_ g3 75 #[.int .i64 f, .int .i64 o, .int .i64 p]) [] [(0, 2), (1, 2), (2, 2), (3, 1), (4, 2), (5, 1), (6, 2), (7, 1), (8, 2)] (by kernel_rfl) (by kernel_rfl) (by kernel_rfl) rfl ?_
        intro w7 hb_
        have M7 := hid (M.out.go hb_)
        have SO7 := hid (SO.out.below hb_)
        have HC1 : Hid (w7.cell? (ad.add x8.toNat) = some ul) := hid ((hb_.cell (World.block_lt_of_cell? _ _ HCE.out)).trans HCE.out)
        have HC2 : Hid (w7.cell? (ad2.add (0 : Int).toNat) = some (.int .i64 h0)) := hid ((hb_.cell (World.block_lt_of_cell? _ _ HCE2.out)).trans HCE2.out)
        clear hb_ M SO HCE HCE2
        refine sq_pure (uL) rfl (fun w'_ => by go_simp) rfl rfl ?_
        intro ts_ ht_; simp only [sI, sZ, sS] at ht_; subst ht_
        refine sq_pure (.int .i64 x8) rfl (fun w'_ => by go_simp) rfl rfl ?_
        intro ts_ ht_; simp only [sI, sZ, sS] at ht_; subst ht_
        refine sq_pure (.pointer (some (ad.add x8.toNat))) rfl (fun w'_ => ex_sat _ _ x8 _ _ HV.out HJ0.out HC.out us92 sT27 _ _ rfl rfl rfl) rfl rfl ?_
        intro ts_ ht_; simp only [sI, sZ, sS] at ht_; subst ht_
        refine sq_take (ul) ⟨HC1.out, HC2.out, M7.out.k3⟩ rfl (fun w'_ hS_ => ex_scell sT27 _ _ hS_.1 _ rfl rfl) rfl rfl ?_
        intro ts_ ht_; simp only [sI, sZ, sS] at ht_; subst ht_
        refine sq_pure (.pointer (some (ad2.add (0 : Int).toNat))) rfl (fun w'_ => ex_sat _ _ 0 _ _ HV2.out (Int.le_refl _) HLP.out us27 sT3 _ _ rfl rfl rfl) rfl rfl ?_
        intro ts_ ht_; simp only [sI, sZ, sS] at ht_; subst ht_
        refine sq_take (.int .i64 h0) ⟨HC1.out, HC2.out, M7.out.k3⟩ rfl (fun w'_ hS_ => ex_scell sT3 _ _ hS_.2.1 _ rfl rfl) rfl rfl ?_
        intro ts_ ht_; simp only [sI, sZ, sS] at ht_; subst ht_
        refine sq_pure (.pointer (some ⟨g3, 1, none⟩)) rfl (fun w'_ => ex_field 75 1 (.pointer (some ⟨g3, 0, none⟩)) (.pointer (some ⟨g3, 1, none⟩)) (fa75_1_0 g3) _ rfl rfl) rfl rfl ?_
        intro ts_ ht_; simp only [sI, sZ, sS] at ht_; subst ht_
        refine sq_take (.int .i64 o) ⟨HC1.out, HC2.out, M7.out.k3⟩ rfl (fun w'_ hS_ => ex_get sT3 g3 1 (.int .i64 o) (#[.int .i64 f, .int .i64 o, .int .i64 p]) hS_.2.2 rfl _ rfl rfl) rfl rfl ?_
        intro ts_ ht_; simp only [sI, sZ, sS] at ht_; subst ht_
        refine sq_pure (.bool (h0 == o)) rfl (fun w'_ => by go_simp) rfl rfl ?_
        intro ts_ ht_; simp only [sI, sZ, sS] at ht_; subst ht_
        refine sq_end ?_
        clear WR64
        cases hq_ : (h0 == o) with
        | true =>
         have HHD : Hid (L.any (headIs o) = true) := hid (any_at HJL.out (by rw [HLJ.out]; unfold headIs; rw [show nt l 0 0 = h0 from HH0.out]; exact hq_))
         have MZ : Hid (pawnR b t f o tk L = decide (0 ≤ tk)) := hid (by rw [MR.out, HHD.out, Bool.true_and])
         clear hq_
         have k4 := True.intro
         go_wp2_with (first
           | ((with_reducible refine gate_d (N := 84) rfl ?_); refine ag_fix (.agg (pv b t c e)) (ex_load posT g2 0 (pv b t c e) (pv b t c e) M7.out.k2 (xv_le HB.out 67 rfl) (xv_ex HB.out 67 rfl) _ rfl rfl) rfl ?_)
           | ((with_reducible refine gate_d (N := 85) rfl ?_); refine ag_fix (.agg #[.int .i64 f, .int .i64 o, .int .i64 p]) (ex_load aT75 g3 0 #[.int .i64 f, .int .i64 o, .int .i64 p] #[.int .i64 f, .int .i64 o, .int .i64 p] M7.out.k3 (by simp) rfl _ rfl rfl) rfl ?_)
           | (go_at_call 47; clear k4; refine (i_alfilref09_Takes.calls 200 b t c e f o p HB.out tk _ HTK.out).mono ?_; rintro e_ w8 ⟨rfl, hb_⟩; have M8 := hid (M7.out.go hb_); clear hb_ M7))
         (try simp only [Act.put, sI, sZ, sS])
         go_ret
         exact ⟨by rw [MZ.out]; first | rfl | (simp; done), M8.out.hl⟩
        | false =>
         have HHD : Hid (headIs o (nt L j []) = false) := hid (by rw [HLJ.out]; unfold headIs; rw [show nt l 0 0 = h0 from HH0.out]; exact hq_)
         clear hq_
         go_wp2_with fail
         (try simp only [Act.put, sI, sZ, sS])
         go_roundg K1
         case measure => omega
         case rel => exact ⟨_, j + 1, rfl, hid (by have := HJ.out; have := HJL.out; have := HLL.out; rw [m64 (by omega) (by omega)]; omega), hid (by have := HK2.out; omega), hid (by have := HJL.out; omega), hid (any_on HJL.out HHD.out HAN.out), SO7, M7⟩
       ·
        have qb : decide (x8 < (L.length : Int)) = false := decide_eq_false q
        have MZ : Hid (pawnR b t f o tk L = false) := hid (by rw [MR.out]; have h_ := HAN.out; rw [List.take_of_length_le (by have := HJ.out; omega)] at h_; rw [h_]; rfl)
        clear q
        go_wp2_with (first
          | ((with_reducible refine gate_d (N := 71) rfl ?_); obtain ⟨A_, c_, hv_⟩ := SO.out.shape; refine ag_fix (.int .i64 (L.length : Int)) (ex_len us92 _ _ _ _ hv_ _ rfl rfl) rfl ?_; clear hv_))
        (try simp only [Act.put, sI, sZ, sS])
        go_ret
        exact ⟨by rw [MZ.out]; rfl, M.out.hl⟩
end Go.Proofs.Ytpjocgebnodnoaa
