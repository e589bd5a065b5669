import Derived.Test.YtpjocgebnodnoaaK1wz
import Derived.Deep.Cut
import Derived.Deep.CutRange
namespace Go.Proofs.Ytpjocgebnodnoaa
open Go.RowKit
set_option linter.unusedVariables false
set_option linter.unusedSimpArgs false
set_option maxRecDepth 100000
theorem aT75 : AggT Try.prog 75 3 #[.int .i64 0, .int .i64 0, .int .i64 0] := ⟨fun w => by kernel_rfl, fun w => by kernel_rfl, fun w => by kernel_rfl, by first | rfl | decide⟩
theorem i8_id {x : Int} (h0 : -128 ≤ x) (h1 : x ≤ 127) : IntKind.i8.wrap x = x := by simp [IntKind.wrap, IntKind.bits, IntKind.signed]; omega
theorem pv_c1 {b : List Int} {t c e : Int} (h : b.length = 64) : (pv b t c e)[64]? = some (.int .i64 t) := (xv_cell (n := 64) h 0 64 rfl).trans rfl
theorem pv_lt {b : List Int} {t c e i : Int} (h : b.length = 64) (h0 : 0 ≤ i) (h1 : i < 64) : i.toNat < (pv b t c e).size := by
  rw [show pv b t c e = xv (Value.int .i8) b [.int .i64 t, .int .i64 c, .int .i64 e] from rfl, xv_size, h]; simp; omega
theorem pv_se {b : List Int} {t c e i v : Int} (h : b.length = 64) (h0 : 0 ≤ i) (h1 : i < 64) : (pv b t c e).setIfInBounds i.toNat (.int .i8 v) = pv (b.set i.toNat v) t c e := xv_sete (by omega) v
theorem pv_s2 {b : List Int} {t c e v : Int} (h : b.length = 64) : (pv b t c e).setIfInBounds 65 (.int .i64 v) = pv b t v e := (xv_setc h 1 65 rfl _).trans rfl
theorem pv_s3 {b : List Int} {t c e v : Int} (h : b.length = 64) : (pv b t c e).setIfInBounds 66 (.int .i64 v) = pv b t c v := (xv_setc h 2 66 rfl _).trans rfl
theorem pv_sz {b : List Int} {t c e : Int} (h : b.length = 64) : (pv b t c e).size = 67 := by
  rw [show pv b t c e = xv (Value.int .i8) b [.int .i64 t, .int .i64 c, .int .i64 e] from rfl, xv_size, h]; rfl
theorem k_fold : ∀ (l : List Value) (k off : Nat) (cs : Array Value), (l.zipIdx k).foldl (fun cs (p : Value × Nat) => cs.setIfInBounds (off + p.2) p.1) cs = putAt l (off + k) cs
  | [], _, _, _ => rfl
  | v :: l, k, off, cs => by simp only [List.zipIdx_cons, List.foldl_cons]; rw [k_fold l (k + 1) off]; rfl
theorem k_step {place : Nat → Option (Nat × Nat)} {cells cs' : Array Value} {i off size : Nat} {v : Value} {rest : List (Nat × Value)} (hp : place i = some (off, size)) (hs : v.cells.size = size) (hl : off + size ≤ cells.size) (hc : putAt v.cells.toList off cells = cs') : Instr.fill place cells ((i, v) :: rest) = Instr.fill place cs' rest := by
  conv => lhs; unfold Instr.fill
  simp only [hp]
  rw [if_neg (by simp [hs]; omega)]
  congr 1
  rw [← Array.foldl_toList, Array.toList_zipIdx]
  exact (k_fold _ _ _ _).trans hc
theorem b46 (parts : List (Nat × Value)) : Try.prog.built 46 parts = Instr.fill (fun i => ([(0, 64), (64, 1), (65, 1), (66, 1)] : List (Nat × Nat)).toArray[i]?) (pv zL 0 0 0) parts := by kernel_rfl
theorem build_pos {b : List Int} (h : b.length = 64) (t e : Int) (w : World) : (Instr.build 46 #[(0, .agg (bv b)), (1, .int .i64 t), (3, .int .i64 e)]).run Try.prog w = .ok (.agg (pv b t 0 e)) w := by
  refine run_build w 46 _ _ ?_
  rw [b46]
  rw [k_step (cs' := pv b 0 0 0) (rfl : _ = some (0, 64)) (by show (bv b).size = 64; rw [show bv b = av (Value.int .i8) b from rfl, av_size, h]) (by rw [pv_sz zL_len]; omega) (by
    show putAt (bv b).toList 0 _ = _
    exact xv_puta zL_len h)]
  rw [k_step (cs' := pv b t 0 0) (rfl : _ = some (64, 1)) rfl (by show 64 + 1 ≤ _; rw [pv_sz h]; omega) (by
    show (pv b 0 0 0).setIfInBounds 64 _ = _
    exact (xv_setc h 0 64 rfl _).trans rfl)]
  rw [k_step (cs' := pv b t 0 e) (rfl : _ = some (66, 1)) rfl (by show 66 + 1 ≤ _; rw [pv_sz h]; omega) (by
    show (pv b t 0 0).setIfInBounds 66 _ = _
    exact (xv_setc h 2 66 rfl _).trans rfl)]
  rfl
structure BhM (w0 w : World) (b : List Int) (t c e f o p : Int) (g2 g3 g4 g5 : Nat) (B : List Int) (t' cc ee : Int) : Prop where
  hl : Below w0.heap.size w0 w
  k2 : Blk w g2 46 (pv b t c e)
  k3 : Blk w g3 75 #[.int .i64 f, .int .i64 o, .int .i64 p]
  k4 : Blk w g4 46 (pv zL 0 0 0)
  k5 : Blk w g5 46 (pv B t' cc ee)
  ln : B.length = 64
  ge : w0.heap.size ≤ g4 ∧ w0.heap.size ≤ g5
  ne : g2 ≠ g5 ∧ g3 ≠ g5 ∧ g4 ≠ g5
section
variable {w0 w w' : World} {b : List Int} {t c e f o p : Int} {g2 g3 g4 g5 : Nat} {B : List Int} {t' cc ee : Int}
theorem BhM.go (h : BhM w0 w b t c e f o p g2 g3 g4 g5 B t' cc ee) (hb : Below w.heap.size w w') : BhM w0 w' b t c e f o p g2 g3 g4 g5 B t' cc ee :=
  { h with hl := h.hl.trans (hb.mono h.hl.size), k2 := h.k2.below hb h.k2.lt, k3 := h.k3.below hb h.k3.lt, k4 := h.k4.below hb h.k4.lt, k5 := h.k5.below hb h.k5.lt }
theorem BhM.any (h : BhM w0 w b t c e f o p g2 g3 g4 g5 B t' cc ee) {B' : List Int} {t2 c2 e2 : Int} (ho : Off g5 w w') (hB : Blk w' g5 46 (pv B' t2 c2 e2)) (hl : B'.length = 64) : BhM w0 w' b t c e f o p g2 g3 g4 g5 B' t2 c2 e2 :=
  { hl := ho.below h.hl h.ge.2, k2 := h.k2.off ho h.ne.1, k3 := h.k3.off ho h.ne.2.1, k4 := h.k4.off ho h.ne.2.2, k5 := hB, ln := hl, ge := h.ge, ne := h.ne }
theorem BhM.set (h : BhM w0 w b t c e f o p g2 g3 g4 g5 B t' cc ee) {i : Nat} {v : Int} (ho : Off g5 w w') (hB : Blk w' g5 46 (pv (B.set i v) t' cc ee)) : BhM w0 w' b t c e f o p g2 g3 g4 g5 (B.set i v) t' cc ee := h.any ho hB (by rw [List.length_set]; exact h.ln)
end
def b1Z (b : List Int) (tk : Int) : List Int := if 0 ≤ tk then b.set tk.toNat 0 else b
def b3Z (b : List Int) (t f o p tk : Int) : List Int := if 0 < p then ((b1Z b tk).set o.toNat (nt b f.toNat 0)).set o.toNat (p - 2 * t * p) else (b1Z b tk).set o.toNat (nt b f.toNat 0)
def b5Z (b : List Int) (t f o p tk R : Int) : List Int := if R = 1 ∨ R = 4 then (((b3Z b t f o p tk).set f.toNat 0).set (f + 1).toNat (4 - 8 * t)).set (f + 3).toNat 0 else (b3Z b t f o p tk).set f.toNat 0
def behB (b : List Int) (t f o p tk R : Int) : List Int := if R = 2 ∨ R = 8 then ((b5Z b t f o p tk R).set (f - 1).toNat (4 - 8 * t)).set (f - 4).toNat 0 else b5Z b t f o p tk R
def keepZ (l r : Int) : Bool := Int.tmod (wrap64 (Int.tdiv l r)) 2 == 0
def lostZ (s : Int) : Int := (i_alfilref09_lost.f s).getD 0
theorem lost_is (s : Int) : i_alfilref09_lost.f s = some (lostZ s) := by unfold lostZ i_alfilref09_lost.f; (repeat' split) <;> rfl
def castJ (c f o : Int) : Nat → Int
  | 0 => 0
  | j + 1 => castJ c f o j + (if hasZ c ((2 ^ j : Nat) : Int) = true ∧ keepZ (lostZ f) ((2 ^ j : Nat) : Int) = true ∧ keepZ (lostZ o) ((2 ^ j : Nat) : Int) = true then ((2 ^ j : Nat) : Int) else 0)
def pawnB (b : List Int) (f : Int) : Bool := nt b f.toNat 0 == 1 || nt b f.toNat 0 == -1
def epZ (b : List Int) (f o : Int) : Int := if pawnB b f = true ∧ (o - f = 16 ∨ f - o = 16) then (f + o) / 2 else -1
theorem castJ_bd (c f o : Int) : ∀ j, j ≤ 4 → 0 ≤ castJ c f o j ∧ castJ c f o j ≤ 2 ^ j - 1
  | 0, _ => by unfold castJ; omega
  | j + 1, h => by
    have := castJ_bd c f o j (by omega)
    have e : (2 : Int) ^ (j + 1) = 2 * 2 ^ j := by rw [Int.pow_succ]; omega
    have e2 : ((2 ^ j : Nat) : Int) = 2 ^ j := by simp
    unfold castJ; rw [e]; split <;> omega
theorem pawn_is {b : List Int} {f : Int} (h0 : 0 ≤ f) (h1 : f < 64) : i_alfilref09_Pawn.f b f = some (pawnB b f) := by
  unfold i_alfilref09_Pawn.f pawnB
  rw [if_pos h0, if_pos h1]
  split
  · rename_i h; rw [h]; rfl
  · rename_i h; rw [beq_eq_false_iff_ne.2 h, Bool.false_or]
set_option maxHeartbeats 40000000 in
theorem beh_calls {b : List Int} {t c e f o p tk R : Int} (hb : b.length = 64) (hf0 : 0 ≤ f) (hf1 : f < 64) (ht0 : 0 ≤ o) (ht1 : o < 64) (hp0 : 0 ≤ p) (hp1 : p ≤ 5) (htt : t = 0 ∨ t = 1)
    (htk : i_alfilref09_Takes.f 200 b t c e f o p = some tk) (htk1 : tk < 64) (hR : i_alfilref09_Right.f 200 b t c e f o p = some R) (hR1 : R = 1 ∨ R = 4 → f + 3 < 64) (hR2 : R = 2 ∨ R = 8 → 4 ≤ f) (w : World) :
    Calls Try.prog 48 #[.agg (pv b t c e), .agg #[.int .i64 f, .int .i64 o, .int .i64 p]] w fun e' w' => e' = .returned (.agg (pv (behB b t f o p tk R) (1 - t) (castJ c f o 4) (epZ b f o))) ∧ Below w.heap.size w w' := by
 have HL := hid (Below.refl w.heap.size w)
 have HB := hid hb
 have HF0 := hid hf0
 have HF1 := hid hf1
 have HT0 := hid ht0
 have HT1 := hid ht1
 have HTK := hid htk
 have HTK1 := hid htk1
 have HR := hid hR
 have HR1 := hid hR1
 have HR2 := hid hR2
 have BP : Hid (0 ≤ 2 * t * p ∧ 2 * t * p ≤ 10) := hid (by rcases htt with rfl | rfl <;> omega)
 have W1 : Hid (wrap64 (1 - t) = 1 - t) := hid (m64 (by omega) (by omega))
 have W5 : Hid (IntKind.i8.wrap (wrap64 (p - wrap64 (wrap64 (2 * t) * p))) = p - 2 * t * p) := hid (by
  rw [m64 (x := 2 * t) (by omega) (by omega), m64 (x := 2 * t * p) (by have := BP.out; omega) (by have := BP.out; omega), m64 (x := p - 2 * t * p) (by have := BP.out; omega) (by have := BP.out; omega), i8_id (by have := BP.out; omega) (by have := BP.out; omega)])
 have W8 : Hid (IntKind.i8.wrap (wrap64 (4 - wrap64 (8 * t))) = 4 - 8 * t) := hid (by rw [m64 (x := 8 * t) (by omega) (by omega), m64 (x := 4 - 8 * t) (by omega) (by omega), i8_id (by omega) (by omega)])
 clear hb hf0 hf1 ht0 ht1 hp0 hp1 htt htk htk1 hR hR1 hR2 BP
 go_enter Try.func48, Try.ntmps48
 have k1 := True.intro
 have k2 := True.intro
 have k3 := True.intro
 have k4 := True.intro
 have k5 := True.intro
 have k6 := True.intro
 go_upto_if 20 with (first
   | ((with_reducible refine gate_d (N := 2) rfl ?_); clear k1; obtain ⟨g2, hg2⟩ : ∃ g_, w.heap.size = g_ := ⟨_, rfl⟩; refine ag_box (pv b t c e) g2 hg2 rfl _ rfl rfl ?_; intro w2 hb_ hB_ hs_; have HL2 := hid (HL.out.trans (hb_.mono (by rw [← hg2]; exact HL.out.size))); have BK2 := hid hB_; clear hb_ hB_ hs_ hg2 HL)
   | ((with_reducible refine gate_d (N := 3) rfl ?_); clear k2; obtain ⟨g3, hg3⟩ : ∃ g_, w2.heap.size = g_ := ⟨_, rfl⟩; refine ag_box #[.int .i64 f, .int .i64 o, .int .i64 p] g3 hg3 rfl _ rfl rfl ?_; intro w3 hb_ hB_ hs_; have HL3 := hid (HL2.out.trans (hb_.mono (by rw [← hg3]; exact HL2.out.size))); have NE23 : Hid (g2 < g3) := hid (by have := BK2.out.lt; omega); have BK23 := hid (BK2.out.below hb_ NE23.out); have BK3 := hid hB_; clear hb_ hB_ hs_ hg3 HL2 BK2)
   | ((with_reducible refine gate_d (N := 4) rfl ?_); clear k3; obtain ⟨g4, hg4⟩ : ∃ g_, w3.heap.size = g_ := ⟨_, rfl⟩; refine ag_alloc posT g4 hg4 rfl rfl ?_; intro w4 hb_ hB_ hs_; have GE4 : Hid (w.heap.size ≤ g4) := hid (by rw [← hg4]; exact HL3.out.size); have HL4 := hid (HL3.out.trans (hb_.mono GE4.out)); have NE34 : Hid (g3 < g4) := hid (by have := BK3.out.lt; omega); have BK24 := hid (BK23.out.below hb_ (by have := NE23.out; have := NE34.out; omega)); have BK34 := hid (BK3.out.below hb_ NE34.out); have BK4 := hid hB_; clear hb_ hB_ hs_ hg4 HL3 BK23 BK3)
   | ((with_reducible refine gate_d (N := 10) rfl ?_); refine ag_fix (.pointer (some ⟨g2, 0, none⟩)) (ex_field 46 0 (.pointer (some ⟨g2, 0, none⟩)) (.pointer (some ⟨g2, 0, none⟩)) (fa46_0_0 g2) _ rfl rfl) rfl ?_)
   | ((with_reducible refine gate_d (N := 11) rfl ?_); refine ag_fix (.agg (bv b)) (ex_load boardT g2 0 (pv b t c e) (bv b) BK24.out (xv_lea HB.out) (xv_exa HB.out) _ rfl rfl) rfl ?_)
   | ((with_reducible refine gate_d (N := 12) rfl ?_); refine ag_fix (.pointer (some ⟨g2, 64, none⟩)) (ex_field 46 1 (.pointer (some ⟨g2, 0, none⟩)) (.pointer (some ⟨g2, 64, none⟩)) (fa46_1_0 g2) _ rfl rfl) rfl ?_)
   | ((with_reducible refine gate_d (N := 13) rfl ?_); refine ag_fix (.int .i64 t) (ex_get sT3 g2 64 (.int .i64 t) (pv b t c e) BK24.out (pv_c1 HB.out) _ rfl rfl) rfl ?_)
   | ((with_reducible refine gate_d (N := 15) rfl ?_); refine ag_build (.agg (pv b (wrap64 (1 - t)) 0 (-1))) _ rfl rfl ?_ ?_; (intro ww_; simp only [List.map_toArray, List.map_cons, List.map_nil]; exact build_pos HB.out _ _ ww_))
   | ((with_reducible refine gate_d (N := 5) rfl ?_); clear k4; obtain ⟨g5, hg5⟩ : ∃ g_, w4.heap.size = g_ := ⟨_, rfl⟩; refine ag_alst posT (pv b (wrap64 (1 - t)) 0 (-1)) g5 hg5 (pv_sz HB.out) (xv_one (fun _ => rfl) (by intro v_ hv_; simp at hv_; rcases hv_ with rfl | rfl | rfl <;> rfl)) rfl rfl 5 rfl _ _ rfl (fun _ => rfl) (fun _ => rfl) rfl ?_; intro w5 hb_ hB_ hs_; have GE5 : Hid (w.heap.size ≤ g5) := hid (by rw [← hg5]; exact HL4.out.size); have NE45 : Hid (g4 < g5) := hid (by have := BK4.out.lt; omega); have M5 : Hid (BhM w w5 b t c e f o p g2 g3 g4 g5 b (wrap64 (1 - t)) 0 (-1)) := hid { hl := HL4.out.trans (hb_.mono GE5.out), k2 := BK24.out.below hb_ (by have := NE23.out; have := NE34.out; have := NE45.out; omega), k3 := BK34.out.below hb_ (by have := NE34.out; have := NE45.out; omega), k4 := BK4.out.below hb_ NE45.out, k5 := hB_, ln := HB.out, ge := ⟨GE4.out, GE5.out⟩, ne := ⟨by have := NE23.out; have := NE34.out; have := NE45.out; omega, by have := NE34.out; have := NE45.out; omega, by have := NE45.out; omega⟩ }; clear hb_ hB_ hs_ hg5 HL4 BK24 BK34 BK4 NE23 NE34 NE45 GE4 GE5)
   | ((with_reducible refine gate_d (N := 16) rfl ?_); refine ag_fix (.agg (pv b t c e)) (ex_load posT g2 0 (pv b t c e) (pv b t c e) M5.out.k2 (xv_le HB.out 67 rfl) (xv_ex HB.out 67 rfl) _ rfl rfl) rfl ?_)
   | ((with_reducible refine gate_d (N := 17) rfl ?_); refine ag_fix (.agg #[.int .i64 f, .int .i64 o, .int .i64 p]) (ex_load aT75 g3 0 #[.int .i64 f, .int .i64 o, .int .i64 p] #[.int .i64 f, .int .i64 o, .int .i64 p] M5.out.k3 (by simp) rfl _ rfl rfl) rfl ?_)
   | (go_at_call 47; clear k5; refine (i_alfilref09_Takes.calls 200 b t c e f o p HB.out tk _ HTK.out).mono ?_; rintro e_ w6 ⟨rfl, hb_⟩; have M6 := hid (M5.out.go hb_); clear hb_ M5))
 (try simp only [Act.put, sI, sZ, sS])
 go_cut [] from 10 (fun w' => Hid (BhM w w' b t c e f o p g2 g3 g4 g5 (b1Z b tk) (wrap64 (1 - t)) 0 (-1)))
 case first =>
  by_cases q : 0 ≤ tk
  ·
   have qb : decide (0 ≤ tk) = true := decide_eq_true q
   have qb' : decide (tk ≥ 0) = true := decide_eq_true q
   have HQ := hid q
   clear q
   have B1 : Hid (b1Z b tk = b.set tk.toNat 0) := hid (if_pos HQ.out)
   first | rw [qb] | rw [qb']
   go_wp2_with (first
     | ((with_reducible refine gate_d (N := 22) rfl ?_); refine ag_fix (.pointer (some ⟨g5, 0, none⟩)) (ex_field 46 0 (.pointer (some ⟨g5, 0, none⟩)) (.pointer (some ⟨g5, 0, none⟩)) (fa46_0_0 g5) _ rfl rfl) rfl ?_)
     | ((with_reducible refine gate_d (N := 23) rfl ?_); refine ag_fix (.pointer (some ⟨g5, (tk).toNat, none⟩)) (ex_at 44 (.pointer (some ⟨g5, 0, none⟩)) (.int .i64 (tk)) (.pointer (some ⟨g5, (tk).toNat, none⟩)) (fun w_ => (run_atv 42 uT44 sT42.size g5 0 (tk) HQ.out HTK1.out w_).trans (by simp)) _ _ rfl rfl rfl) rfl ?_)
     | ((with_reducible refine gate_s (t := 42) (p := 23) rfl ?_); refine ag_set sT42 g5 (tk).toNat (.int .i8 (0)) _ _ M6.out.k5 (pv_lt M6.out.ln HQ.out HTK1.out) rfl rfl (pv_se M6.out.ln HQ.out HTK1.out) rfl _ _ rfl rfl rfl ?_; intro w_ ho_ hB_; have M7 := hid (M6.out.set ho_ hB_); clear ho_ hB_ M6))
   (try simp only [Act.put, sI, sZ, sS])
   go_meet
   case rel => exact hid (by rw [B1.out]; exact M7.out)
  ·
   have qb : decide (0 ≤ tk) = false := decide_eq_false q
   have qb' : decide (tk ≥ 0) = false := decide_eq_false q
   have B1 : Hid (b1Z b tk = b) := hid (if_neg q)
   clear q
   first | rw [qb] | rw [qb']
   go_wp2_with fail
   go_meet
   case rel => exact hid (by rw [B1.out]; exact M6.out)
 case rest =>
  have M7 := hcut
  clear hcut M6
  obtain ⟨B1, hB1_⟩ : ∃ B, b1Z b tk = B := ⟨_, rfl⟩
  have HB1 := hid hB1_
  rw [hB1_] at M7
  clear hB1_
  have WR64 := i64_w
  go_upto_region 5 with fail
  refine sq_region (fun w'_ => Blk w'_ g2 46 (pv b t c e) ∧ Blk w'_ g3 75 #[.int .i64 f, .int .i64 o, .int .i64 p]) [9] [(0, 2), (1, 1), (2, 2), (3, 1), (4, 2), (5, 2), (6, 1), (7, 2), (8, 2), (9, 0)] (by kernel_rfl) (by kernel_rfl) (by kernel_rfl) rfl ?_
  intro w8 hb_
  have M8 := hid (M7.out.go hb_)
  clear hb_ M7
  refine sq_pure (.pointer (some ⟨g3, 1, none⟩)) rfl (fun w'_ => ex_field 75 1 (.pointer (some ⟨g3, 0, none⟩)) (.pointer (some ⟨g3, 1, none⟩)) (fa75_1_0 g3) _ rfl rfl) rfl rfl ?_
  intro ts_ ht_; simp only [sI, sZ, sS] at ht_; subst ht_
  refine sq_take (.int .i64 o) ⟨M8.out.k2, M8.out.k3⟩ rfl (fun w'_ hS_ => ex_get sT3 g3 1 (.int .i64 o) (#[.int .i64 f, .int .i64 o, .int .i64 p]) hS_.2 rfl _ rfl rfl) rfl rfl ?_
  intro ts_ ht_; simp only [sI, sZ, sS] at ht_; subst ht_
  refine sq_pure (.pointer (some ⟨g3, 0, none⟩)) rfl (fun w'_ => ex_field 75 0 (.pointer (some ⟨g3, 0, none⟩)) (.pointer (some ⟨g3, 0, none⟩)) (fa75_0_0 g3) _ rfl rfl) rfl rfl ?_
  intro ts_ ht_; simp only [sI, sZ, sS] at ht_; subst ht_
  refine sq_take (.int .i64 f) ⟨M8.out.k2, M8.out.k3⟩ rfl (fun w'_ hS_ => ex_get sT3 g3 0 (.int .i64 f) (#[.int .i64 f, .int .i64 o, .int .i64 p]) hS_.2 rfl _ rfl rfl) rfl rfl ?_
  intro ts_ ht_; simp only [sI, sZ, sS] at ht_; subst ht_
  refine sq_pure (.pointer (some ⟨g2, 0, none⟩)) rfl (fun w'_ => ex_field 46 0 (.pointer (some ⟨g2, 0, none⟩)) (.pointer (some ⟨g2, 0, none⟩)) (fa46_0_0 g2) _ rfl rfl) rfl rfl ?_
  intro ts_ ht_; simp only [sI, sZ, sS] at ht_; subst ht_
  refine sq_pure (.pointer (some ⟨g2, f.toNat, none⟩)) rfl (fun w'_ => ex_at 44 (.pointer (some ⟨g2, 0, none⟩)) (.int .i64 f) (.pointer (some ⟨g2, f.toNat, none⟩)) (fun w_ => (run_atv 42 uT44 sT42.size g2 0 f HF0.out HF1.out w_).trans (by simp)) _ _ rfl rfl rfl) rfl rfl ?_
  intro ts_ ht_; simp only [sI, sZ, sS] at ht_; subst ht_
  refine sq_take (.int .i8 (nt b f.toNat 0)) ⟨M8.out.k2, M8.out.k3⟩ rfl (fun w'_ hS_ => ex_get sT42 g2 f.toNat (.int .i8 (nt b f.toNat 0)) (pv b t c e) hS_.1 (xv_elem 0 (by have := HB.out; have := HF0.out; have := HF1.out; omega)) _ rfl rfl) rfl rfl ?_
  intro ts_ ht_; simp only [sI, sZ, sS] at ht_; subst ht_
  refine sq_pure (.pointer (some ⟨g5, 0, none⟩)) rfl (fun w'_ => ex_field 46 0 (.pointer (some ⟨g5, 0, none⟩)) (.pointer (some ⟨g5, 0, none⟩)) (fa46_0_0 g5) _ rfl rfl) rfl rfl ?_
  intro ts_ ht_; simp only [sI, sZ, sS] at ht_; subst ht_
  refine sq_pure (.pointer (some ⟨g5, o.toNat, none⟩)) rfl (fun w'_ => ex_at 44 (.pointer (some ⟨g5, 0, none⟩)) (.int .i64 o) (.pointer (some ⟨g5, o.toNat, none⟩)) (fun w_ => (run_atv 42 uT44 sT42.size g5 0 o HT0.out HT1.out w_).trans (by simp)) _ _ rfl rfl rfl) rfl rfl ?_
  intro ts_ ht_; simp only [sI, sZ, sS] at ht_; subst ht_
  refine sq_act rfl (fun Q'_ hQ_ => ?_)
  refine ag_set sT42 g5 o.toNat (.int .i8 (nt b f.toNat 0)) _ _ M8.out.k5 (pv_lt M8.out.ln HT0.out HT1.out) rfl rfl (pv_se M8.out.ln HT0.out HT1.out) rfl _ _ rfl rfl rfl ?_
  intro w9 ho_ hB_
  have M9 := hid (M8.out.set ho_ hB_)
  clear ho_ hB_ M8
  refine act_end ?_
  refine hQ_ _ _ (fun h_ => absurd h_ (by decide)) ?_
  clear hQ_ Q'_
  simp only [Act.put]
  refine sq_end ?_
  clear WR64
  go_upto_if 35 with (first
    | ((with_reducible refine gate_d (N := 33) rfl ?_); refine ag_fix (.pointer (some ⟨g3, 2, none⟩)) (ex_field 75 2 (.pointer (some ⟨g3, 0, none⟩)) (.pointer (some ⟨g3, 2, none⟩)) (fa75_2_0 g3) _ rfl rfl) rfl ?_)
    | ((with_reducible refine gate_d (N := 34) rfl ?_); refine ag_fix (.int .i64 p) (ex_get sT3 g3 2 (.int .i64 p) (#[.int .i64 f, .int .i64 o, .int .i64 p]) M9.out.k3 rfl _ rfl rfl) rfl ?_))
  (try simp only [Act.put, sI, sZ, sS])
  go_cut [] from 10 (fun w' => Hid (BhM w w' b t c e f o p g2 g3 g4 g5 (b3Z b t f o p tk) (wrap64 (1 - t)) 0 (-1)))
  case first =>
   by_cases q : 0 < p
   ·
    have qb : decide (0 < p) = true := decide_eq_true q
    have qb' : decide (p > 0) = true := decide_eq_true q
    have B3 : Hid (b3Z b t f o p tk = (B1.set o.toNat (nt b f.toNat 0)).set o.toNat (IntKind.i8.wrap (wrap64 (p - wrap64 (wrap64 (2 * t) * p))))) := hid (by unfold b3Z; rw [if_pos q, HB1.out, W5.out])
    clear q
    first | rw [qb] | rw [qb']
    go_wp2_with (first
      | ((with_reducible refine gate_d (N := 36) rfl ?_); refine ag_fix (.pointer (some ⟨g3, 1, none⟩)) (ex_field 75 1 (.pointer (some ⟨g3, 0, none⟩)) (.pointer (some ⟨g3, 1, none⟩)) (fa75_1_0 g3) _ rfl rfl) rfl ?_)
      | ((with_reducible refine gate_d (N := 37) rfl ?_); refine ag_fix (.int .i64 o) (ex_get sT3 g3 1 (.int .i64 o) (#[.int .i64 f, .int .i64 o, .int .i64 p]) M9.out.k3 rfl _ rfl rfl) rfl ?_)
      | ((with_reducible refine gate_d (N := 38) rfl ?_); refine ag_fix (.pointer (some ⟨g3, 2, none⟩)) (ex_field 75 2 (.pointer (some ⟨g3, 0, none⟩)) (.pointer (some ⟨g3, 2, none⟩)) (fa75_2_0 g3) _ rfl rfl) rfl ?_)
      | ((with_reducible refine gate_d (N := 39) rfl ?_); refine ag_fix (.int .i64 p) (ex_get sT3 g3 2 (.int .i64 p) (#[.int .i64 f, .int .i64 o, .int .i64 p]) M9.out.k3 rfl _ rfl rfl) rfl ?_)
      | ((with_reducible refine gate_d (N := 40) rfl ?_); refine ag_fix (.pointer (some ⟨g2, 64, none⟩)) (ex_field 46 1 (.pointer (some ⟨g2, 0, none⟩)) (.pointer (some ⟨g2, 64, none⟩)) (fa46_1_0 g2) _ rfl rfl) rfl ?_)
      | ((with_reducible refine gate_d (N := 41) rfl ?_); refine ag_fix (.int .i64 t) (ex_get sT3 g2 64 (.int .i64 t) (pv b t c e) M9.out.k2 (pv_c1 HB.out) _ rfl rfl) rfl ?_)
      | ((with_reducible refine gate_d (N := 43) rfl ?_); refine ag_fix (.pointer (some ⟨g3, 2, none⟩)) (ex_field 75 2 (.pointer (some ⟨g3, 0, none⟩)) (.pointer (some ⟨g3, 2, none⟩)) (fa75_2_0 g3) _ rfl rfl) rfl ?_)
      | ((with_reducible refine gate_d (N := 44) rfl ?_); refine ag_fix (.int .i64 p) (ex_get sT3 g3 2 (.int .i64 p) (#[.int .i64 f, .int .i64 o, .int .i64 p]) M9.out.k3 rfl _ rfl rfl) rfl ?_)
      | ((with_reducible refine gate_d (N := 48) rfl ?_); refine ag_fix (.pointer (some ⟨g5, 0, none⟩)) (ex_field 46 0 (.pointer (some ⟨g5, 0, none⟩)) (.pointer (some ⟨g5, 0, none⟩)) (fa46_0_0 g5) _ rfl rfl) rfl ?_)
      | ((with_reducible refine gate_d (N := 49) rfl ?_); refine ag_fix (.pointer (some ⟨g5, (o).toNat, none⟩)) (ex_at 44 (.pointer (some ⟨g5, 0, none⟩)) (.int .i64 (o)) (.pointer (some ⟨g5, (o).toNat, none⟩)) (fun w_ => (run_atv 42 uT44 sT42.size g5 0 (o) HT0.out HT1.out w_).trans (by simp)) _ _ rfl rfl rfl) rfl ?_)
      | ((with_reducible refine gate_s (t := 42) (p := 49) rfl ?_); refine ag_set sT42 g5 (o).toNat (.int .i8 (IntKind.i8.wrap (wrap64 (p - wrap64 (wrap64 (2 * t) * p))))) _ _ M9.out.k5 (pv_lt M9.out.ln HT0.out HT1.out) rfl rfl (pv_se M9.out.ln HT0.out HT1.out) rfl _ _ rfl rfl rfl ?_; intro w_ ho_ hB_; have M10 := hid (M9.out.set ho_ hB_); clear ho_ hB_ M9))
    (try simp only [Act.put, sI, sZ, sS])
    go_meet
    case rel => exact hid (by rw [B3.out]; exact M10.out)
   ·
    have qb : decide (0 < p) = false := decide_eq_false q
    have qb' : decide (p > 0) = false := decide_eq_false q
    have B3 : Hid (b3Z b t f o p tk = B1.set o.toNat (nt b f.toNat 0)) := hid (by unfold b3Z; rw [if_neg q, HB1.out])
    clear q
    first | rw [qb] | rw [qb']
    go_wp2_with fail
    go_meet
    case rel => exact hid (by rw [B3.out]; exact M9.out)
  case rest =>
   have M10 := hcut
   clear hcut M9
   obtain ⟨B3, hB3_⟩ : ∃ B, b3Z b t f o p tk = B := ⟨_, rfl⟩
   have HB3 := hid hB3_
   rw [hB3_] at M10
   clear hB3_
   go_upto_region 11 with (first
     | ((with_reducible refine gate_d (N := 50) rfl ?_); refine ag_fix (.pointer (some ⟨g3, 0, none⟩)) (ex_field 75 0 (.pointer (some ⟨g3, 0, none⟩)) (.pointer (some ⟨g3, 0, none⟩)) (fa75_0_0 g3) _ rfl rfl) rfl ?_)
     | ((with_reducible refine gate_d (N := 51) rfl ?_); refine ag_fix (.int .i64 f) (ex_get sT3 g3 0 (.int .i64 f) (#[.int .i64 f, .int .i64 o, .int .i64 p]) M10.out.k3 rfl _ rfl rfl) rfl ?_)
     | ((with_reducible refine gate_d (N := 52) rfl ?_); refine ag_fix (.pointer (some ⟨g5, 0, none⟩)) (ex_field 46 0 (.pointer (some ⟨g5, 0, none⟩)) (.pointer (some ⟨g5, 0, none⟩)) (fa46_0_0 g5) _ rfl rfl) rfl ?_)
     | ((with_reducible refine gate_d (N := 53) rfl ?_); refine ag_fix (.pointer (some ⟨g5, (f).toNat, none⟩)) (ex_at 44 (.pointer (some ⟨g5, 0, none⟩)) (.int .i64 (f)) (.pointer (some ⟨g5, (f).toNat, none⟩)) (fun w_ => (run_atv 42 uT44 sT42.size g5 0 (f) HF0.out HF1.out w_).trans (by simp)) _ _ rfl rfl rfl) rfl ?_)
     | ((with_reducible refine gate_s (t := 42) (p := 53) rfl ?_); refine ag_set sT42 g5 (f).toNat (.int .i8 (0)) _ _ M10.out.k5 (pv_lt M10.out.ln HF0.out HF1.out) rfl rfl (pv_se M10.out.ln HF0.out HF1.out) rfl _ _ rfl rfl rfl ?_; intro w_ ho_ hB_; have M11 := hid (M10.out.set ho_ hB_); clear ho_ hB_ M10)
     | ((with_reducible refine gate_d (N := 54) rfl ?_); refine ag_fix (.agg (pv b t c e)) (ex_load posT g2 0 (pv b t c e) (pv b t c e) M11.out.k2 (xv_le HB.out 67 rfl) (xv_ex HB.out 67 rfl) _ rfl rfl) rfl ?_)
     | ((with_reducible refine gate_d (N := 55) rfl ?_); refine ag_fix (.agg #[.int .i64 f, .int .i64 o, .int .i64 p]) (ex_load aT75 g3 0 #[.int .i64 f, .int .i64 o, .int .i64 p] #[.int .i64 f, .int .i64 o, .int .i64 p] M11.out.k3 (by simp) rfl _ rfl rfl) rfl ?_)
     | (go_at_call 85; clear k6; refine (i_alfilref09_Right.calls 200 b t c e f o p HB.out R _ HR.out).mono ?_; rintro e_ w12 ⟨rfl, hb_⟩; have M12 := hid (M11.out.go hb_); clear hb_ M11)
     | ((with_reducible refine gate_d (N := 57) rfl ?_); refine ag_fix (.pointer (some ⟨g2, 64, none⟩)) (ex_field 46 1 (.pointer (some ⟨g2, 0, none⟩)) (.pointer (some ⟨g2, 64, none⟩)) (fa46_1_0 g2) _ rfl rfl) rfl ?_)
     | ((with_reducible refine gate_d (N := 58) rfl ?_); refine ag_fix (.int .i64 t) (ex_get sT3 g2 64 (.int .i64 t) (pv b t c e) M12.out.k2 (pv_c1 HB.out) _ rfl rfl) rfl ?_))
   (try simp only [Act.put, sI, sZ, sS])
   go_cut [67] from 10 (fun s_ w' => s_ = .bool (decide (R = 1 ∨ R = 4)) ∧ Hid (BhM w w' b t c e f o p g2 g3 g4 g5 _ (wrap64 (1 - t)) 0 (-1)))
   case first =>
    by_cases qa : R = 1
    ·
     have qa1 : (R == 1) = true := beq_iff_eq.mpr qa
     have QD : Hid (decide (R = 1 ∨ R = 4) = true) := hid (decide_eq_true (.inl qa))
     clear qa
     go_wp2_with fail
     go_meet
     case rel => exact ⟨by rw [QD.out], M12⟩
    ·
     have qa1 : (R == 1) = false := beq_eq_false_iff_ne.mpr qa
     by_cases qb : R = 4
     ·
      have qb1 : (R == 4) = true := beq_iff_eq.mpr qb
      have QD : Hid (decide (R = 1 ∨ R = 4) = true) := hid (decide_eq_true (.inr qb))
      clear qa qb
      go_wp2_with fail
      go_meet
      case rel => exact ⟨by rw [QD.out], M12⟩
     ·
      have qb1 : (R == 4) = false := beq_eq_false_iff_ne.mpr qb
      have QD : Hid (decide (R = 1 ∨ R = 4) = false) := hid (decide_eq_false (by rintro (h_ | h_) <;> contradiction))
      clear qa qb
      go_wp2_with fail
      go_meet
      case rel => exact ⟨by rw [QD.out], M12⟩
   case rest =>
    obtain ⟨hs_, M12n⟩ := hcut
    clear M12
    subst hs_
    have M12 := M12n
    clear M12n
    go_upto_if 67 with fail
    go_cut [] from 10 (fun w' => Hid (BhM w w' b t c e f o p g2 g3 g4 g5 (b5Z b t f o p tk R) (wrap64 (1 - t)) 0 (-1)))
    case first =>
     by_cases qa : R = 1 ∨ R = 4
     ·
      have qa1 : decide (R = 1 ∨ R = 4) = true := decide_eq_true qa
      have HQ := hid qa
      have B5 : Hid (b5Z b t f o p tk R = ((B3.set f.toNat 0).set (f + 1).toNat (4 - 8 * t)).set (f + 3).toNat 0) := hid (by unfold b5Z; rw [if_pos HQ.out]; rw [HB3.out])
      clear qa
      rw [qa1]
      clear qa1
      have V1 : Hid (wrap64 (f + 1) = f + 1) := hid (m64 (by have := HF0.out; omega) (by have := HF1.out; omega))
      have V2 : Hid (wrap64 (f + 3) = f + 3) := hid (m64 (by have := HF0.out; omega) (by have := HF1.out; omega))
      have H0 : Hid (0 ≤ wrap64 (f + 1) ∧ wrap64 (f + 1) < 64 ∧ 0 ≤ wrap64 (f + 3) ∧ wrap64 (f + 3) < 64) := hid (by rw [V1.out, V2.out]; have h_ := HR1.out HQ.out; have := HF0.out; have := HF1.out; omega)
      go_wp2_with (first
        | ((with_reducible refine gate_d (N := 68) rfl ?_); refine ag_fix (.pointer (some ⟨g3, 0, none⟩)) (ex_field 75 0 (.pointer (some ⟨g3, 0, none⟩)) (.pointer (some ⟨g3, 0, none⟩)) (fa75_0_0 g3) _ rfl rfl) rfl ?_)
        | ((with_reducible refine gate_d (N := 69) rfl ?_); refine ag_fix (.int .i64 f) (ex_get sT3 g3 0 (.int .i64 f) (#[.int .i64 f, .int .i64 o, .int .i64 p]) M12.out.k3 rfl _ rfl rfl) rfl ?_)
        | ((with_reducible refine gate_d (N := 72) rfl ?_); refine ag_fix (.pointer (some ⟨g5, 0, none⟩)) (ex_field 46 0 (.pointer (some ⟨g5, 0, none⟩)) (.pointer (some ⟨g5, 0, none⟩)) (fa46_0_0 g5) _ rfl rfl) rfl ?_)
        | ((with_reducible refine gate_d (N := 73) rfl ?_); refine ag_fix (.pointer (some ⟨g5, (wrap64 (f + 1)).toNat, none⟩)) (ex_at 44 (.pointer (some ⟨g5, 0, none⟩)) (.int .i64 (wrap64 (f + 1))) (.pointer (some ⟨g5, (wrap64 (f + 1)).toNat, none⟩)) (fun w_ => (run_atv 42 uT44 sT42.size g5 0 (wrap64 (f + 1)) H0.out.1 H0.out.2.1 w_).trans (by simp)) _ _ rfl rfl rfl) rfl ?_)
        | ((with_reducible refine gate_s (t := 42) (p := 73) rfl ?_); refine ag_set sT42 g5 (wrap64 (f + 1)).toNat (.int .i8 (IntKind.i8.wrap (wrap64 (4 - wrap64 (8 * t))))) _ _ M12.out.k5 (pv_lt M12.out.ln H0.out.1 H0.out.2.1) rfl rfl (pv_se M12.out.ln H0.out.1 H0.out.2.1) rfl _ _ rfl rfl rfl ?_; intro w_ ho_ hB_; have Ma := hid (M12.out.set ho_ hB_); clear ho_ hB_ M12)
        | ((with_reducible refine gate_d (N := 74) rfl ?_); refine ag_fix (.pointer (some ⟨g3, 0, none⟩)) (ex_field 75 0 (.pointer (some ⟨g3, 0, none⟩)) (.pointer (some ⟨g3, 0, none⟩)) (fa75_0_0 g3) _ rfl rfl) rfl ?_)
        | ((with_reducible refine gate_d (N := 75) rfl ?_); refine ag_fix (.int .i64 f) (ex_get sT3 g3 0 (.int .i64 f) (#[.int .i64 f, .int .i64 o, .int .i64 p]) Ma.out.k3 rfl _ rfl rfl) rfl ?_)
        | ((with_reducible refine gate_d (N := 77) rfl ?_); refine ag_fix (.pointer (some ⟨g5, 0, none⟩)) (ex_field 46 0 (.pointer (some ⟨g5, 0, none⟩)) (.pointer (some ⟨g5, 0, none⟩)) (fa46_0_0 g5) _ rfl rfl) rfl ?_)
        | ((with_reducible refine gate_d (N := 78) rfl ?_); refine ag_fix (.pointer (some ⟨g5, (wrap64 (f + 3)).toNat, none⟩)) (ex_at 44 (.pointer (some ⟨g5, 0, none⟩)) (.int .i64 (wrap64 (f + 3))) (.pointer (some ⟨g5, (wrap64 (f + 3)).toNat, none⟩)) (fun w_ => (run_atv 42 uT44 sT42.size g5 0 (wrap64 (f + 3)) H0.out.2.2.1 H0.out.2.2.2 w_).trans (by simp)) _ _ rfl rfl rfl) rfl ?_)
        | ((with_reducible refine gate_s (t := 42) (p := 78) rfl ?_); refine ag_set sT42 g5 (wrap64 (f + 3)).toNat (.int .i8 (0)) _ _ Ma.out.k5 (pv_lt Ma.out.ln H0.out.2.2.1 H0.out.2.2.2) rfl rfl (pv_se Ma.out.ln H0.out.2.2.1 H0.out.2.2.2) rfl _ _ rfl rfl rfl ?_; intro w_ ho_ hB_; have Mb := hid (Ma.out.set ho_ hB_); clear ho_ hB_ Ma))
      (try simp only [Act.put, sI, sZ, sS])
      go_meet
      case rel => exact hid (by rw [B5.out, ← W8.out, ← V1.out, ← V2.out]; exact Mb.out)
     ·
      have qa1 : decide (R = 1 ∨ R = 4) = false := decide_eq_false qa
      have B5 : Hid (b5Z b t f o p tk R = B3.set f.toNat 0) := hid (by unfold b5Z; rw [if_neg qa]; rw [HB3.out])
      clear qa
      rw [qa1]
      clear qa1
      go_wp2_with fail
      go_meet
      case rel => exact hid (by rw [B5.out]; exact M12.out)
    case rest =>
     have M13 := hcut
     clear hcut M12
     obtain ⟨B5, hB5_⟩ : ∃ B, b5Z b t f o p tk R = B := ⟨_, rfl⟩
     have HB5 := hid hB5_
     rw [hB5_] at M13
     clear hB5_
     go_upto_region 14 with fail
     go_cut [84] from 10 (fun s_ w' => s_ = .bool (decide (R = 2 ∨ R = 8)) ∧ Hid (BhM w w' b t c e f o p g2 g3 g4 g5 _ (wrap64 (1 - t)) 0 (-1)))
     case first =>
      by_cases qa : R = 2
      ·
       have qa1 : (R == 2) = true := beq_iff_eq.mpr qa
       have QD : Hid (decide (R = 2 ∨ R = 8) = true) := hid (decide_eq_true (.inl qa))
       clear qa
       go_wp2_with fail
       go_meet
       case rel => exact ⟨by rw [QD.out], M13⟩
      ·
       have qa1 : (R == 2) = false := beq_eq_false_iff_ne.mpr qa
       by_cases qb : R = 8
       ·
        have qb1 : (R == 8) = true := beq_iff_eq.mpr qb
        have QD : Hid (decide (R = 2 ∨ R = 8) = true) := hid (decide_eq_true (.inr qb))
        clear qa qb
        go_wp2_with fail
        go_meet
        case rel => exact ⟨by rw [QD.out], M13⟩
       ·
        have qb1 : (R == 8) = false := beq_eq_false_iff_ne.mpr qb
        have QD : Hid (decide (R = 2 ∨ R = 8) = false) := hid (decide_eq_false (by rintro (h_ | h_) <;> contradiction))
        clear qa qb
        go_wp2_with fail
        go_meet
        case rel => exact ⟨by rw [QD.out], M13⟩
     case rest =>
      obtain ⟨hs_, M13n⟩ := hcut
      clear M13
      subst hs_
      have M13 := M13n
      clear M13n
      go_upto_if 84 with fail
      go_cut [] from 10 (fun w' => Hid (BhM w w' b t c e f o p g2 g3 g4 g5 (behB b t f o p tk R) (wrap64 (1 - t)) 0 (-1)))
      case first =>
       by_cases qa : R = 2 ∨ R = 8
       ·
        have qa1 : decide (R = 2 ∨ R = 8) = true := decide_eq_true qa
        have HQ := hid qa
        have B6 : Hid (behB b t f o p tk R = (B5.set (f - 1).toNat (4 - 8 * t)).set (f - 4).toNat 0) := hid (by unfold behB; rw [if_pos HQ.out]; rw [HB5.out])
        clear qa
        rw [qa1]
        clear qa1
        have V1 : Hid (wrap64 (f - 1) = f - 1) := hid (m64 (by have := HF0.out; omega) (by have := HF1.out; omega))
        have V2 : Hid (wrap64 (f - 4) = f - 4) := hid (m64 (by have := HF0.out; omega) (by have := HF1.out; omega))
        have H0 : Hid (0 ≤ wrap64 (f - 1) ∧ wrap64 (f - 1) < 64 ∧ 0 ≤ wrap64 (f - 4) ∧ wrap64 (f - 4) < 64) := hid (by rw [V1.out, V2.out]; have h_ := HR2.out HQ.out; have := HF0.out; have := HF1.out; omega)
        go_wp2_with (first
          | ((with_reducible refine gate_d (N := 85) rfl ?_); refine ag_fix (.pointer (some ⟨g3, 0, none⟩)) (ex_field 75 0 (.pointer (some ⟨g3, 0, none⟩)) (.pointer (some ⟨g3, 0, none⟩)) (fa75_0_0 g3) _ rfl rfl) rfl ?_)
          | ((with_reducible refine gate_d (N := 86) rfl ?_); refine ag_fix (.int .i64 f) (ex_get sT3 g3 0 (.int .i64 f) (#[.int .i64 f, .int .i64 o, .int .i64 p]) M13.out.k3 rfl _ rfl rfl) rfl ?_)
          | ((with_reducible refine gate_d (N := 89) rfl ?_); refine ag_fix (.pointer (some ⟨g5, 0, none⟩)) (ex_field 46 0 (.pointer (some ⟨g5, 0, none⟩)) (.pointer (some ⟨g5, 0, none⟩)) (fa46_0_0 g5) _ rfl rfl) rfl ?_)
          | ((with_reducible refine gate_d (N := 90) rfl ?_); refine ag_fix (.pointer (some ⟨g5, (wrap64 (f - 1)).toNat, none⟩)) (ex_at 44 (.pointer (some ⟨g5, 0, none⟩)) (.int .i64 (wrap64 (f - 1))) (.pointer (some ⟨g5, (wrap64 (f - 1)).toNat, none⟩)) (fun w_ => (run_atv 42 uT44 sT42.size g5 0 (wrap64 (f - 1)) H0.out.1 H0.out.2.1 w_).trans (by simp)) _ _ rfl rfl rfl) rfl ?_)
          | ((with_reducible refine gate_s (t := 42) (p := 90) rfl ?_); refine ag_set sT42 g5 (wrap64 (f - 1)).toNat (.int .i8 (IntKind.i8.wrap (wrap64 (4 - wrap64 (8 * t))))) _ _ M13.out.k5 (pv_lt M13.out.ln H0.out.1 H0.out.2.1) rfl rfl (pv_se M13.out.ln H0.out.1 H0.out.2.1) rfl _ _ rfl rfl rfl ?_; intro w_ ho_ hB_; have Ma := hid (M13.out.set ho_ hB_); clear ho_ hB_ M13)
          | ((with_reducible refine gate_d (N := 91) rfl ?_); refine ag_fix (.pointer (some ⟨g3, 0, none⟩)) (ex_field 75 0 (.pointer (some ⟨g3, 0, none⟩)) (.pointer (some ⟨g3, 0, none⟩)) (fa75_0_0 g3) _ rfl rfl) rfl ?_)
          | ((with_reducible refine gate_d (N := 92) rfl ?_); refine ag_fix (.int .i64 f) (ex_get sT3 g3 0 (.int .i64 f) (#[.int .i64 f, .int .i64 o, .int .i64 p]) Ma.out.k3 rfl _ rfl rfl) rfl ?_)
          | ((with_reducible refine gate_d (N := 94) rfl ?_); refine ag_fix (.pointer (some ⟨g5, 0, none⟩)) (ex_field 46 0 (.pointer (some ⟨g5, 0, none⟩)) (.pointer (some ⟨g5, 0, none⟩)) (fa46_0_0 g5) _ rfl rfl) rfl ?_)
          | ((with_reducible refine gate_d (N := 95) rfl ?_); refine ag_fix (.pointer (some ⟨g5, (wrap64 (f - 4)).toNat, none⟩)) (ex_at 44 (.pointer (some ⟨g5, 0, none⟩)) (.int .i64 (wrap64 (f - 4))) (.pointer (some ⟨g5, (wrap64 (f - 4)).toNat, none⟩)) (fun w_ => (run_atv 42 uT44 sT42.size g5 0 (wrap64 (f - 4)) H0.out.2.2.1 H0.out.2.2.2 w_).trans (by simp)) _ _ rfl rfl rfl) rfl ?_)
          | ((with_reducible refine gate_s (t := 42) (p := 95) rfl ?_); refine ag_set sT42 g5 (wrap64 (f - 4)).toNat (.int .i8 (0)) _ _ Ma.out.k5 (pv_lt Ma.out.ln H0.out.2.2.1 H0.out.2.2.2) rfl rfl (pv_se Ma.out.ln H0.out.2.2.1 H0.out.2.2.2) rfl _ _ rfl rfl rfl ?_; intro w_ ho_ hB_; have Mb := hid (Ma.out.set ho_ hB_); clear ho_ hB_ Ma))
        (try simp only [Act.put, sI, sZ, sS])
        go_meet
        case rel => exact hid (by rw [B6.out, ← W8.out, ← V1.out, ← V2.out]; exact Mb.out)
       ·
        have qa1 : decide (R = 2 ∨ R = 8) = false := decide_eq_false qa
        have B6 : Hid (behB b t f o p tk R = B5) := hid (by unfold behB; rw [if_neg qa]; rw [HB5.out])
        clear qa
        rw [qa1]
        clear qa1
        go_wp2_with fail
        go_meet
        case rel => exact hid (by rw [B6.out]; exact M13.out)
      case rest =>
       have M14 := hcut
       clear hcut M13
       obtain ⟨B6, hB6_⟩ : ∃ B, behB b t f o p tk R = B := ⟨_, rfl⟩
       have HB6 := hid hB6_
       rw [hB6_] at M14
       clear hB6_
       obtain ⟨lf, hlf_⟩ : ∃ x, lostZ f = x := ⟨_, rfl⟩
       have LF : Hid (i_alfilref09_lost.f f = some lf) := hid (by rw [← hlf_]; exact lost_is f)
       have HLF := hid hlf_
       obtain ⟨lt_, hlt_⟩ : ∃ x, lostZ o = x := ⟨_, rfl⟩
       have LT : Hid (i_alfilref09_lost.f o = some lt_) := hid (by rw [← hlt_]; exact lost_is o)
       have HLT := hid hlt_
       clear hlf_ hlt_
       go_wp2_with fail
       go_loopg [9] 5 (fun kq v9 w' => ∃ (x9 cc : Int) (j : Nat), v9 = .int .i64 x9 ∧ Hid (x9 = ((2 ^ j : Nat) : Int)) ∧ Hid (kq + j = 5) ∧ Hid (j ≤ 4) ∧ Hid (cc = castJ c f o j) ∧ Hid (BhM w w' b t c e f o p g2 g3 g4 g5 B6 (wrap64 (1 - t)) cc (-1)))
       case atStart => exact ⟨1, 0, 0, (by first | rfl | (simp; done)), hid rfl, hid (by omega), hid (by omega), hid rfl, M14⟩
       case round =>
        clear M14
        obtain ⟨x9, cc, j, rfl, HX, HK2, HJM, HCC, M⟩ := hrel
        obtain ⟨K1, rfl⟩ : ∃ K_, gk = K_ + 1 := ⟨gk - 1, by have := HK2.out; have := HJM.out; omega⟩
        have P2 : Hid (((2 ^ (j + 1) : Nat) : Int) = 2 * ((2 ^ j : Nat) : Int)) := hid (by rw [Nat.pow_succ]; omega)
        have PB : Hid (1 ≤ x9 ∧ x9 ≤ 16 ∧ (x9 ≤ 8 ↔ j ≤ 3)) := hid (by
         rw [HX.out]; have h_ := HJM.out
         match j, h_ with
         | 0, _ => decide
         | 1, _ => decide
         | 2, _ => decide
         | 3, _ => decide
         | 4, _ => decide)
        by_cases q : x9 ≤ 8
        ·
         have qb : decide (x9 ≤ 8) = true := decide_eq_true q
         have HQ := hid q
         have HJ3 : Hid (j ≤ 3) := hid (PB.out.2.2.1 q)
         clear q
         have x0 : (x9 == 0) = false := beq_eq_false_iff_ne.mpr (by have := PB.out; omega)
         have x1 : ¬ (x9 = 0) := by have := PB.out; omega
         have CB : Hid (0 ≤ cc ∧ cc ≤ 15) := hid (by have := castJ_bd c f o j (by have := HJM.out; omega); rw [HCC.out]; have h_ := HJM.out; refine ⟨this.1, Int.le_trans this.2 ?_⟩; match j, h_ with
          | 0, _ => decide
          | 1, _ => decide
          | 2, _ => decide
          | 3, _ => decide
          | 4, _ => decide)
         have D1 : Hid (wrap64 (2 * x9) = ((2 ^ (j + 1) : Nat) : Int)) := hid (by rw [P2.out, ← HX.out]; exact m64 (by have := PB.out; omega) (by have := PB.out; omega))
         have HH : Hid (i_alfilref08_Has.f c x9 = some (hasZ c x9)) := hid (has_is x1)
         have t1 := True.intro
         have t2 := True.intro
         have t3 := True.intro
         cases ha_ : hasZ c x9 with
         | false =>
          have HA := hid ha_
          go_wp2_with (first
            | ((with_reducible refine gate_d (N := 100) rfl ?_); refine ag_fix (.pointer (some ⟨g2, 65, none⟩)) (ex_field 46 2 (.pointer (some ⟨g2, 0, none⟩)) (.pointer (some ⟨g2, 65, none⟩)) (kfa46_2 g2) _ rfl rfl) rfl ?_)
            | ((with_reducible refine gate_d (N := 101) rfl ?_); refine ag_fix (.int .i64 c) (ex_get sT3 g2 65 (.int .i64 c) (pv b t c e) M.out.k2 (pv_c2 HB.out) _ rfl rfl) rfl ?_)
            | (go_at_call 86; clear t1; refine (i_alfilref08_Has.calls c x9 _ _ HH.out).mono ?_; rintro e_ w_ ⟨rfl, rfl⟩; rw [HA.out]))
          (try simp only [Act.put, sI, sZ, sS])
          go_roundg K1
          case measure => omega
          case rel => exact ⟨_, cc, j + 1, rfl, D1, hid (by have := HK2.out; omega), hid (by have := HJ3.out; omega), hid (by show _ = castJ c f o (j + 1); unfold castJ; rw [if_neg (by rw [← HX.out, HLF.out, HLT.out]; rintro ⟨h1_, h2_, h3_⟩; rw [HA.out] at h1_; cases h1_), ← HCC.out]; omega), M⟩
         | true =>
          have HA := hid ha_
          cases hk_ : keepZ lf x9 with
          | false =>
           have KF : (Int.tmod (wrap64 (Int.tdiv lf x9)) 2 == 0) = false := hk_
           have HKF := hid hk_
           clear hk_ ha_
           go_wp2_with (first
             | ((with_reducible refine gate_d (N := 100) rfl ?_); refine ag_fix (.pointer (some ⟨g2, 65, none⟩)) (ex_field 46 2 (.pointer (some ⟨g2, 0, none⟩)) (.pointer (some ⟨g2, 65, none⟩)) (kfa46_2 g2) _ rfl rfl) rfl ?_)
             | ((with_reducible refine gate_d (N := 101) rfl ?_); refine ag_fix (.int .i64 c) (ex_get sT3 g2 65 (.int .i64 c) (pv b t c e) M.out.k2 (pv_c2 HB.out) _ rfl rfl) rfl ?_)
             | (go_at_call 86; clear t1; refine (i_alfilref08_Has.calls c x9 _ _ HH.out).mono ?_; rintro e_ w_ ⟨rfl, rfl⟩; rw [HA.out])
             | ((with_reducible refine gate_d (N := 105) rfl ?_); refine ag_fix (.pointer (some ⟨g3, 0, none⟩)) (ex_field 75 0 (.pointer (some ⟨g3, 0, none⟩)) (.pointer (some ⟨g3, 0, none⟩)) (fa75_0_0 g3) _ rfl rfl) rfl ?_)
             | ((with_reducible refine gate_d (N := 106) rfl ?_); refine ag_fix (.int .i64 f) (ex_get sT3 g3 0 (.int .i64 f) (#[.int .i64 f, .int .i64 o, .int .i64 p]) M.out.k3 rfl _ rfl rfl) rfl ?_)
             | (go_at_call 87; clear t2; refine (i_alfilref09_lost.calls f lf _ LF.out).mono ?_; rintro e_ w_ ⟨rfl, rfl⟩))
           (try simp only [Act.put, sI, sZ, sS])
           go_roundg K1
           case measure => omega
           case rel => exact ⟨_, cc, j + 1, rfl, D1, hid (by have := HK2.out; omega), hid (by have := HJ3.out; omega), hid (by show _ = castJ c f o (j + 1); unfold castJ; rw [if_neg (by rw [← HX.out, HLF.out, HLT.out]; rintro ⟨h1_, h2_, h3_⟩; rw [HKF.out] at h2_; cases h2_), ← HCC.out]; omega), M⟩
          | true =>
           have KF : (Int.tmod (wrap64 (Int.tdiv lf x9)) 2 == 0) = true := hk_
           have HKF := hid hk_
           clear hk_
           cases hl_ : keepZ lt_ x9 with
           | false =>
            have KT : (Int.tmod (wrap64 (Int.tdiv lt_ x9)) 2 == 0) = false := hl_
            have HKT := hid hl_
            clear hl_ ha_
            go_wp2_with (first
              | ((with_reducible refine gate_d (N := 100) rfl ?_); refine ag_fix (.pointer (some ⟨g2, 65, none⟩)) (ex_field 46 2 (.pointer (some ⟨g2, 0, none⟩)) (.pointer (some ⟨g2, 65, none⟩)) (kfa46_2 g2) _ rfl rfl) rfl ?_)
              | ((with_reducible refine gate_d (N := 101) rfl ?_); refine ag_fix (.int .i64 c) (ex_get sT3 g2 65 (.int .i64 c) (pv b t c e) M.out.k2 (pv_c2 HB.out) _ rfl rfl) rfl ?_)
              | (go_at_call 86; clear t1; refine (i_alfilref08_Has.calls c x9 _ _ HH.out).mono ?_; rintro e_ w_ ⟨rfl, rfl⟩; rw [HA.out])
              | ((with_reducible refine gate_d (N := 105) rfl ?_); refine ag_fix (.pointer (some ⟨g3, 0, none⟩)) (ex_field 75 0 (.pointer (some ⟨g3, 0, none⟩)) (.pointer (some ⟨g3, 0, none⟩)) (fa75_0_0 g3) _ rfl rfl) rfl ?_)
              | ((with_reducible refine gate_d (N := 106) rfl ?_); refine ag_fix (.int .i64 f) (ex_get sT3 g3 0 (.int .i64 f) (#[.int .i64 f, .int .i64 o, .int .i64 p]) M.out.k3 rfl _ rfl rfl) rfl ?_)
              | (go_at_call 87; clear t2; refine (i_alfilref09_lost.calls f lf _ LF.out).mono ?_; rintro e_ w_ ⟨rfl, rfl⟩)
              | ((with_reducible refine gate_d (N := 114) rfl ?_); refine ag_fix (.pointer (some ⟨g3, 1, none⟩)) (ex_field 75 1 (.pointer (some ⟨g3, 0, none⟩)) (.pointer (some ⟨g3, 1, none⟩)) (fa75_1_0 g3) _ rfl rfl) rfl ?_)
              | ((with_reducible refine gate_d (N := 115) rfl ?_); refine ag_fix (.int .i64 o) (ex_get sT3 g3 1 (.int .i64 o) (#[.int .i64 f, .int .i64 o, .int .i64 p]) M.out.k3 rfl _ rfl rfl) rfl ?_)
              | (go_at_call 87; clear t3; refine (i_alfilref09_lost.calls o lt_ _ LT.out).mono ?_; rintro e_ w_ ⟨rfl, rfl⟩))
            (try simp only [Act.put, sI, sZ, sS])
            go_roundg K1
            case measure => omega
            case rel => exact ⟨_, cc, j + 1, rfl, D1, hid (by have := HK2.out; omega), hid (by have := HJ3.out; omega), hid (by show _ = castJ c f o (j + 1); unfold castJ; rw [if_neg (by rw [← HX.out, HLF.out, HLT.out]; rintro ⟨h1_, h2_, h3_⟩; rw [HKT.out] at h3_; cases h3_), ← HCC.out]; omega), M⟩
           | true =>
            have KT : (Int.tmod (wrap64 (Int.tdiv lt_ x9)) 2 == 0) = true := hl_
            have HKT := hid hl_
            clear hl_ ha_
            have D2 : Hid (wrap64 (cc + x9) = cc + x9) := hid (m64 (by have := CB.out; have := PB.out; omega) (by have := CB.out; have := PB.out; omega))
            go_wp2_with (first
              | ((with_reducible refine gate_d (N := 100) rfl ?_); refine ag_fix (.pointer (some ⟨g2, 65, none⟩)) (ex_field 46 2 (.pointer (some ⟨g2, 0, none⟩)) (.pointer (some ⟨g2, 65, none⟩)) (kfa46_2 g2) _ rfl rfl) rfl ?_)
              | ((with_reducible refine gate_d (N := 101) rfl ?_); refine ag_fix (.int .i64 c) (ex_get sT3 g2 65 (.int .i64 c) (pv b t c e) M.out.k2 (pv_c2 HB.out) _ rfl rfl) rfl ?_)
              | (go_at_call 86; clear t1; refine (i_alfilref08_Has.calls c x9 _ _ HH.out).mono ?_; rintro e_ w_ ⟨rfl, rfl⟩; rw [HA.out])
              | ((with_reducible refine gate_d (N := 105) rfl ?_); refine ag_fix (.pointer (some ⟨g3, 0, none⟩)) (ex_field 75 0 (.pointer (some ⟨g3, 0, none⟩)) (.pointer (some ⟨g3, 0, none⟩)) (fa75_0_0 g3) _ rfl rfl) rfl ?_)
              | ((with_reducible refine gate_d (N := 106) rfl ?_); refine ag_fix (.int .i64 f) (ex_get sT3 g3 0 (.int .i64 f) (#[.int .i64 f, .int .i64 o, .int .i64 p]) M.out.k3 rfl _ rfl rfl) rfl ?_)
              | (go_at_call 87; clear t2; refine (i_alfilref09_lost.calls f lf _ LF.out).mono ?_; rintro e_ w_ ⟨rfl, rfl⟩)
              | ((with_reducible refine gate_d (N := 114) rfl ?_); refine ag_fix (.pointer (some ⟨g3, 1, none⟩)) (ex_field 75 1 (.pointer (some ⟨g3, 0, none⟩)) (.pointer (some ⟨g3, 1, none⟩)) (fa75_1_0 g3) _ rfl rfl) rfl ?_)
              | ((with_reducible refine gate_d (N := 115) rfl ?_); refine ag_fix (.int .i64 o) (ex_get sT3 g3 1 (.int .i64 o) (#[.int .i64 f, .int .i64 o, .int .i64 p]) M.out.k3 rfl _ rfl rfl) rfl ?_)
              | (go_at_call 87; clear t3; refine (i_alfilref09_lost.calls o lt_ _ LT.out).mono ?_; rintro e_ w_ ⟨rfl, rfl⟩)
              | ((with_reducible refine gate_d (N := 122) rfl ?_); refine ag_fix (.pointer (some ⟨g5, 65, none⟩)) (ex_field 46 2 (.pointer (some ⟨g5, 0, none⟩)) (.pointer (some ⟨g5, 65, none⟩)) (kfa46_2 g5) _ rfl rfl) rfl ?_)
              | ((with_reducible refine gate_d (N := 123) rfl ?_); refine ag_fix (.int .i64 cc) (ex_get sT3 g5 65 (.int .i64 cc) _ M.out.k5 (pv_c2 M.out.ln) _ rfl rfl) rfl ?_)
              | ((with_reducible refine gate_d (N := 126) rfl ?_); refine ag_fix (.pointer (some ⟨g5, 65, none⟩)) (ex_field 46 2 (.pointer (some ⟨g5, 0, none⟩)) (.pointer (some ⟨g5, 65, none⟩)) (kfa46_2 g5) _ rfl rfl) rfl ?_)
              | ((with_reducible refine gate_s (t := 3) (p := 126) rfl ?_); refine ag_set sT3 g5 65 (.int .i64 (wrap64 (cc + x9))) _ _ M.out.k5 (by rw [pv_sz M.out.ln]; omega) rfl rfl (pv_s2 M.out.ln) rfl _ _ rfl rfl rfl ?_; intro w_ ho_ hB_; have Mc := hid (M.out.any ho_ hB_ M.out.ln); clear ho_ hB_ M))
            (try simp only [Act.put, sI, sZ, sS])
            go_roundg K1
            case measure => omega
            case rel => exact ⟨_, wrap64 (cc + x9), j + 1, rfl, D1, hid (by have := HK2.out; omega), hid (by have := HJ3.out; omega), hid (by rw [D2.out]; show _ = castJ c f o (j + 1); unfold castJ; rw [if_pos (by rw [← HX.out, HLF.out, HLT.out]; exact ⟨HA.out, HKF.out, HKT.out⟩), ← HCC.out, ← HX.out]), Mc⟩
        ·
         have qb : decide (x9 ≤ 8) = false := decide_eq_false q
         have CJ : Hid (cc = castJ c f o 4) := hid (by rw [HCC.out, show j = 4 by have := PB.out; have := HJM.out; omega])
         clear q
         rw [CJ.out] at M
         obtain ⟨C4, hC4_⟩ : ∃ x, castJ c f o 4 = x := ⟨_, rfl⟩
         have HC4 := hid hC4_
         rw [hC4_] at M
         clear hC4_ CJ HCC
         have HPW : Hid (i_alfilref09_Pawn.f b f = some (pawnB b f)) := hid (pawn_is HF0.out HF1.out)
         have V1 : Hid (wrap64 (o - f) = o - f) := hid (m64 (by have := HF1.out; have := HT0.out; omega) (by have := HF0.out; have := HT1.out; omega))
         have V2 : Hid (wrap64 (f - o) = f - o) := hid (m64 (by have := HF0.out; have := HT1.out; omega) (by have := HF1.out; have := HT0.out; omega))
         have V3 : Hid (wrap64 (Int.tdiv (wrap64 (f + o)) 2) = (f + o) / 2) := hid (by rw [m64 (x := f + o) (by have := HF0.out; have := HT0.out; omega) (by have := HF1.out; have := HT1.out; omega), Int.tdiv_eq_ediv_of_nonneg (by have := HF0.out; have := HT0.out; omega)]; exact m64 (by have := HF0.out; have := HT0.out; omega) (by have := HF1.out; have := HT1.out; omega))
         have t1 := True.intro
         have t2 := True.intro
         have t3 := True.intro
         cases hpa_ : pawnB b f with
         | false =>
          have HPA := hid hpa_
          clear hpa_
          go_wp2_with (first
            | ((with_reducible refine gate_d (N := 127) rfl ?_); refine ag_fix (.pointer (some ⟨g2, 0, none⟩)) (ex_field 46 0 (.pointer (some ⟨g2, 0, none⟩)) (.pointer (some ⟨g2, 0, none⟩)) (fa46_0_0 g2) _ rfl rfl) rfl ?_)
            | ((with_reducible refine gate_d (N := 128) rfl ?_); refine ag_fix (.agg (bv b)) (ex_load boardT g2 0 (pv b t c e) (bv b) M.out.k2 (xv_lea HB.out) (xv_exa HB.out) _ rfl rfl) rfl ?_)
            | ((with_reducible refine gate_d (N := 129) rfl ?_); refine ag_fix (.pointer (some ⟨g3, 0, none⟩)) (ex_field 75 0 (.pointer (some ⟨g3, 0, none⟩)) (.pointer (some ⟨g3, 0, none⟩)) (fa75_0_0 g3) _ rfl rfl) rfl ?_)
            | ((with_reducible refine gate_d (N := 130) rfl ?_); refine ag_fix (.int .i64 f) (ex_get sT3 g3 0 (.int .i64 f) (#[.int .i64 f, .int .i64 o, .int .i64 p]) M.out.k3 rfl _ rfl rfl) rfl ?_)
            | (go_at_call 83; clear t1; refine (i_alfilref09_Pawn.calls b f HB.out _ _ HPW.out).mono ?_; rintro e_ w_ ⟨rfl, hb_⟩; rw [HPA.out]; have Mp := hid (M.out.go hb_); clear hb_ M)
            | ((with_reducible refine gate_d (N := 155) rfl ?_); refine ag_fix (.agg (pv B6 (wrap64 (1 - t)) C4 (-1))) (ex_load posT g5 0 _ _ Mp.out.k5 (xv_le Mp.out.ln 67 rfl) (xv_ex Mp.out.ln 67 rfl) _ rfl rfl) rfl ?_)
            | ((with_reducible refine gate_s (t := 46) (p := 4) rfl ?_); clear t3; refine ag_store posT g4 0 (pv zL 0 0 0) (pv B6 (wrap64 (1 - t)) C4 (-1)) (pv B6 (wrap64 (1 - t)) C4 (-1)) Mp.out.k4 (pv_sz Mp.out.ln) (xv_le zL_len 67 rfl) (xv_one (fun _ => rfl) (by intro v_ hv_; simp at hv_; rcases hv_ with rfl | rfl | rfl <;> rfl)) (xv_put zL_len Mp.out.ln rfl) rfl _ _ rfl rfl rfl ?_; intro wz ho_ hB_; have HZ := hid (ho_.below Mp.out.hl Mp.out.ge.1); have BKz := hid hB_; have LNz := hid Mp.out.ln; clear ho_ hB_ Mp))
          (try simp only [Act.put, sI, sZ, sS])
          refine bodyPost_ret (v := .agg (pv B6 (wrap64 (1 - t)) C4 (-1))) (ag_result posT rfl _ _ _ BKz.out (pv_sz LNz.out) rfl) rfl ⟨by show _ = Ending.returned _; rw [HB6.out, HC4.out, W1.out, show epZ b f o = -1 from if_neg (by rintro ⟨h1_, h2_⟩; rw [HPA.out] at h1_; cases h1_)], HZ.out⟩
         | true =>
          have HPA := hid hpa_
          clear hpa_
          by_cases q1 : o - f = 16
          ·
           have q1b : ((wrap64 (o - f)) == 16) = true := beq_iff_eq.mpr (V1.out.trans q1)
           have HQ1 := hid q1
           clear q1
           go_wp2_with (first
             | ((with_reducible refine gate_d (N := 127) rfl ?_); refine ag_fix (.pointer (some ⟨g2, 0, none⟩)) (ex_field 46 0 (.pointer (some ⟨g2, 0, none⟩)) (.pointer (some ⟨g2, 0, none⟩)) (fa46_0_0 g2) _ rfl rfl) rfl ?_)
             | ((with_reducible refine gate_d (N := 128) rfl ?_); refine ag_fix (.agg (bv b)) (ex_load boardT g2 0 (pv b t c e) (bv b) M.out.k2 (xv_lea HB.out) (xv_exa HB.out) _ rfl rfl) rfl ?_)
             | ((with_reducible refine gate_d (N := 129) rfl ?_); refine ag_fix (.pointer (some ⟨g3, 0, none⟩)) (ex_field 75 0 (.pointer (some ⟨g3, 0, none⟩)) (.pointer (some ⟨g3, 0, none⟩)) (fa75_0_0 g3) _ rfl rfl) rfl ?_)
             | ((with_reducible refine gate_d (N := 130) rfl ?_); refine ag_fix (.int .i64 f) (ex_get sT3 g3 0 (.int .i64 f) (#[.int .i64 f, .int .i64 o, .int .i64 p]) M.out.k3 rfl _ rfl rfl) rfl ?_)
             | (go_at_call 83; clear t1; refine (i_alfilref09_Pawn.calls b f HB.out _ _ HPW.out).mono ?_; rintro e_ w_ ⟨rfl, hb_⟩; rw [HPA.out]; have Mp := hid (M.out.go hb_); clear hb_ M)
             | ((with_reducible refine gate_d (N := 133) rfl ?_); refine ag_fix (.pointer (some ⟨g3, 1, none⟩)) (ex_field 75 1 (.pointer (some ⟨g3, 0, none⟩)) (.pointer (some ⟨g3, 1, none⟩)) (fa75_1_0 g3) _ rfl rfl) rfl ?_)
             | ((with_reducible refine gate_d (N := 134) rfl ?_); refine ag_fix (.int .i64 o) (ex_get sT3 g3 1 (.int .i64 o) (#[.int .i64 f, .int .i64 o, .int .i64 p]) Mp.out.k3 rfl _ rfl rfl) rfl ?_)
             | ((with_reducible refine gate_d (N := 135) rfl ?_); refine ag_fix (.pointer (some ⟨g3, 0, none⟩)) (ex_field 75 0 (.pointer (some ⟨g3, 0, none⟩)) (.pointer (some ⟨g3, 0, none⟩)) (fa75_0_0 g3) _ rfl rfl) rfl ?_)
             | ((with_reducible refine gate_d (N := 136) rfl ?_); refine ag_fix (.int .i64 f) (ex_get sT3 g3 0 (.int .i64 f) (#[.int .i64 f, .int .i64 o, .int .i64 p]) Mp.out.k3 rfl _ rfl rfl) rfl ?_)
             | ((with_reducible refine gate_d (N := 148) rfl ?_); refine ag_fix (.pointer (some ⟨g3, 0, none⟩)) (ex_field 75 0 (.pointer (some ⟨g3, 0, none⟩)) (.pointer (some ⟨g3, 0, none⟩)) (fa75_0_0 g3) _ rfl rfl) rfl ?_)
             | ((with_reducible refine gate_d (N := 149) rfl ?_); refine ag_fix (.int .i64 f) (ex_get sT3 g3 0 (.int .i64 f) (#[.int .i64 f, .int .i64 o, .int .i64 p]) Mp.out.k3 rfl _ rfl rfl) rfl ?_)
             | ((with_reducible refine gate_d (N := 150) rfl ?_); refine ag_fix (.pointer (some ⟨g3, 1, none⟩)) (ex_field 75 1 (.pointer (some ⟨g3, 0, none⟩)) (.pointer (some ⟨g3, 1, none⟩)) (fa75_1_0 g3) _ rfl rfl) rfl ?_)
             | ((with_reducible refine gate_d (N := 151) rfl ?_); refine ag_fix (.int .i64 o) (ex_get sT3 g3 1 (.int .i64 o) (#[.int .i64 f, .int .i64 o, .int .i64 p]) Mp.out.k3 rfl _ rfl rfl) rfl ?_)
             | ((with_reducible refine gate_d (N := 154) rfl ?_); refine ag_fix (.pointer (some ⟨g5, 66, none⟩)) (ex_field 46 3 (.pointer (some ⟨g5, 0, none⟩)) (.pointer (some ⟨g5, 66, none⟩)) (fa46_3_0 g5) _ rfl rfl) rfl ?_)
             | ((with_reducible refine gate_s (t := 3) (p := 154) rfl ?_); clear t2; refine ag_set sT3 g5 66 (.int .i64 (wrap64 (Int.tdiv (wrap64 (f + o)) 2))) _ _ Mp.out.k5 (by rw [pv_sz Mp.out.ln]; omega) rfl rfl (pv_s3 Mp.out.ln) rfl _ _ rfl rfl rfl ?_; intro w_ ho_ hB_; have Me := hid (Mp.out.any ho_ hB_ Mp.out.ln); clear ho_ hB_ Mp)
             | ((with_reducible refine gate_d (N := 155) rfl ?_); refine ag_fix (.agg (pv B6 (wrap64 (1 - t)) C4 (wrap64 (Int.tdiv (wrap64 (f + o)) 2)))) (ex_load posT g5 0 _ _ Me.out.k5 (xv_le Me.out.ln 67 rfl) (xv_ex Me.out.ln 67 rfl) _ rfl rfl) rfl ?_)
             | ((with_reducible refine gate_s (t := 46) (p := 4) rfl ?_); clear t3; refine ag_store posT g4 0 (pv zL 0 0 0) (pv B6 (wrap64 (1 - t)) C4 (wrap64 (Int.tdiv (wrap64 (f + o)) 2))) (pv B6 (wrap64 (1 - t)) C4 (wrap64 (Int.tdiv (wrap64 (f + o)) 2))) Me.out.k4 (pv_sz Me.out.ln) (xv_le zL_len 67 rfl) (xv_one (fun _ => rfl) (by intro v_ hv_; simp at hv_; rcases hv_ with rfl | rfl | rfl <;> rfl)) (xv_put zL_len Me.out.ln rfl) rfl _ _ rfl rfl rfl ?_; intro wz ho_ hB_; have HZ := hid (ho_.below Me.out.hl Me.out.ge.1); have BKz := hid hB_; have LNz := hid Me.out.ln; clear ho_ hB_ Me))
           (try simp only [Act.put, sI, sZ, sS])
           refine bodyPost_ret (v := .agg (pv B6 (wrap64 (1 - t)) C4 (wrap64 (Int.tdiv (wrap64 (f + o)) 2)))) (ag_result posT rfl _ _ _ BKz.out (pv_sz LNz.out) rfl) rfl ⟨by show _ = Ending.returned _; rw [HB6.out, HC4.out, W1.out, V3.out, show epZ b f o = (f + o) / 2 from if_pos ⟨HPA.out, .inl HQ1.out⟩], HZ.out⟩
          ·
           have q1b : ((wrap64 (o - f)) == 16) = false := beq_eq_false_iff_ne.mpr (by rw [V1.out]; exact q1)
           have HQ1 := hid q1
           clear q1
           by_cases q2 : f - o = 16
           ·
            have q2b : ((wrap64 (f - o)) == 16) = true := beq_iff_eq.mpr (V2.out.trans q2)
            have HQ2 := hid q2
            clear q2
            go_wp2_with (first
              | ((with_reducible refine gate_d (N := 127) rfl ?_); refine ag_fix (.pointer (some ⟨g2, 0, none⟩)) (ex_field 46 0 (.pointer (some ⟨g2, 0, none⟩)) (.pointer (some ⟨g2, 0, none⟩)) (fa46_0_0 g2) _ rfl rfl) rfl ?_)
              | ((with_reducible refine gate_d (N := 128) rfl ?_); refine ag_fix (.agg (bv b)) (ex_load boardT g2 0 (pv b t c e) (bv b) M.out.k2 (xv_lea HB.out) (xv_exa HB.out) _ rfl rfl) rfl ?_)
              | ((with_reducible refine gate_d (N := 129) rfl ?_); refine ag_fix (.pointer (some ⟨g3, 0, none⟩)) (ex_field 75 0 (.pointer (some ⟨g3, 0, none⟩)) (.pointer (some ⟨g3, 0, none⟩)) (fa75_0_0 g3) _ rfl rfl) rfl ?_)
              | ((with_reducible refine gate_d (N := 130) rfl ?_); refine ag_fix (.int .i64 f) (ex_get sT3 g3 0 (.int .i64 f) (#[.int .i64 f, .int .i64 o, .int .i64 p]) M.out.k3 rfl _ rfl rfl) rfl ?_)
              | (go_at_call 83; clear t1; refine (i_alfilref09_Pawn.calls b f HB.out _ _ HPW.out).mono ?_; rintro e_ w_ ⟨rfl, hb_⟩; rw [HPA.out]; have Mp := hid (M.out.go hb_); clear hb_ M)
              | ((with_reducible refine gate_d (N := 133) rfl ?_); refine ag_fix (.pointer (some ⟨g3, 1, none⟩)) (ex_field 75 1 (.pointer (some ⟨g3, 0, none⟩)) (.pointer (some ⟨g3, 1, none⟩)) (fa75_1_0 g3) _ rfl rfl) rfl ?_)
              | ((with_reducible refine gate_d (N := 134) rfl ?_); refine ag_fix (.int .i64 o) (ex_get sT3 g3 1 (.int .i64 o) (#[.int .i64 f, .int .i64 o, .int .i64 p]) Mp.out.k3 rfl _ rfl rfl) rfl ?_)
              | ((with_reducible refine gate_d (N := 135) rfl ?_); refine ag_fix (.pointer (some ⟨g3, 0, none⟩)) (ex_field 75 0 (.pointer (some ⟨g3, 0, none⟩)) (.pointer (some ⟨g3, 0, none⟩)) (fa75_0_0 g3) _ rfl rfl) rfl ?_)
              | ((with_reducible refine gate_d (N := 136) rfl ?_); refine ag_fix (.int .i64 f) (ex_get sT3 g3 0 (.int .i64 f) (#[.int .i64 f, .int .i64 o, .int .i64 p]) Mp.out.k3 rfl _ rfl rfl) rfl ?_)
              | ((with_reducible refine gate_d (N := 140) rfl ?_); refine ag_fix (.pointer (some ⟨g3, 0, none⟩)) (ex_field 75 0 (.pointer (some ⟨g3, 0, none⟩)) (.pointer (some ⟨g3, 0, none⟩)) (fa75_0_0 g3) _ rfl rfl) rfl ?_)
              | ((with_reducible refine gate_d (N := 141) rfl ?_); refine ag_fix (.int .i64 f) (ex_get sT3 g3 0 (.int .i64 f) (#[.int .i64 f, .int .i64 o, .int .i64 p]) Mp.out.k3 rfl _ rfl rfl) rfl ?_)
              | ((with_reducible refine gate_d (N := 142) rfl ?_); refine ag_fix (.pointer (some ⟨g3, 1, none⟩)) (ex_field 75 1 (.pointer (some ⟨g3, 0, none⟩)) (.pointer (some ⟨g3, 1, none⟩)) (fa75_1_0 g3) _ rfl rfl) rfl ?_)
              | ((with_reducible refine gate_d (N := 143) rfl ?_); refine ag_fix (.int .i64 o) (ex_get sT3 g3 1 (.int .i64 o) (#[.int .i64 f, .int .i64 o, .int .i64 p]) Mp.out.k3 rfl _ rfl rfl) rfl ?_)
              | ((with_reducible refine gate_d (N := 148) rfl ?_); refine ag_fix (.pointer (some ⟨g3, 0, none⟩)) (ex_field 75 0 (.pointer (some ⟨g3, 0, none⟩)) (.pointer (some ⟨g3, 0, none⟩)) (fa75_0_0 g3) _ rfl rfl) rfl ?_)
              | ((with_reducible refine gate_d (N := 149) rfl ?_); refine ag_fix (.int .i64 f) (ex_get sT3 g3 0 (.int .i64 f) (#[.int .i64 f, .int .i64 o, .int .i64 p]) Mp.out.k3 rfl _ rfl rfl) rfl ?_)
              | ((with_reducible refine gate_d (N := 150) rfl ?_); refine ag_fix (.pointer (some ⟨g3, 1, none⟩)) (ex_field 75 1 (.pointer (some ⟨g3, 0, none⟩)) (.pointer (some ⟨g3, 1, none⟩)) (fa75_1_0 g3) _ rfl rfl) rfl ?_)
              | ((with_reducible refine gate_d (N := 151) rfl ?_); refine ag_fix (.int .i64 o) (ex_get sT3 g3 1 (.int .i64 o) (#[.int .i64 f, .int .i64 o, .int .i64 p]) Mp.out.k3 rfl _ rfl rfl) rfl ?_)
              | ((with_reducible refine gate_d (N := 154) rfl ?_); refine ag_fix (.pointer (some ⟨g5, 66, none⟩)) (ex_field 46 3 (.pointer (some ⟨g5, 0, none⟩)) (.pointer (some ⟨g5, 66, none⟩)) (fa46_3_0 g5) _ rfl rfl) rfl ?_)
              | ((with_reducible refine gate_s (t := 3) (p := 154) rfl ?_); clear t2; refine ag_set sT3 g5 66 (.int .i64 (wrap64 (Int.tdiv (wrap64 (f + o)) 2))) _ _ Mp.out.k5 (by rw [pv_sz Mp.out.ln]; omega) rfl rfl (pv_s3 Mp.out.ln) rfl _ _ rfl rfl rfl ?_; intro w_ ho_ hB_; have Me := hid (Mp.out.any ho_ hB_ Mp.out.ln); clear ho_ hB_ Mp)
              | ((with_reducible refine gate_d (N := 155) rfl ?_); refine ag_fix (.agg (pv B6 (wrap64 (1 - t)) C4 (wrap64 (Int.tdiv (wrap64 (f + o)) 2)))) (ex_load posT g5 0 _ _ Me.out.k5 (xv_le Me.out.ln 67 rfl) (xv_ex Me.out.ln 67 rfl) _ rfl rfl) rfl ?_)
              | ((with_reducible refine gate_s (t := 46) (p := 4) rfl ?_); clear t3; refine ag_store posT g4 0 (pv zL 0 0 0) (pv B6 (wrap64 (1 - t)) C4 (wrap64 (Int.tdiv (wrap64 (f + o)) 2))) (pv B6 (wrap64 (1 - t)) C4 (wrap64 (Int.tdiv (wrap64 (f + o)) 2))) Me.out.k4 (pv_sz Me.out.ln) (xv_le zL_len 67 rfl) (xv_one (fun _ => rfl) (by intro v_ hv_; simp at hv_; rcases hv_ with rfl | rfl | rfl <;> rfl)) (xv_put zL_len Me.out.ln rfl) rfl _ _ rfl rfl rfl ?_; intro wz ho_ hB_; have HZ := hid (ho_.below Me.out.hl Me.out.ge.1); have BKz := hid hB_; have LNz := hid Me.out.ln; clear ho_ hB_ Me))
            (try simp only [Act.put, sI, sZ, sS])
            refine bodyPost_ret (v := .agg (pv B6 (wrap64 (1 - t)) C4 (wrap64 (Int.tdiv (wrap64 (f + o)) 2)))) (ag_result posT rfl _ _ _ BKz.out (pv_sz LNz.out) rfl) rfl ⟨by show _ = Ending.returned _; rw [HB6.out, HC4.out, W1.out, V3.out, show epZ b f o = (f + o) / 2 from if_pos ⟨HPA.out, .inr HQ2.out⟩], HZ.out⟩
           ·
            have q2b : ((wrap64 (f - o)) == 16) = false := beq_eq_false_iff_ne.mpr (by rw [V2.out]; exact q2)
            have HQ2 := hid q2
            clear q2
            go_wp2_with (first
              | ((with_reducible refine gate_d (N := 127) rfl ?_); refine ag_fix (.pointer (some ⟨g2, 0, none⟩)) (ex_field 46 0 (.pointer (some ⟨g2, 0, none⟩)) (.pointer (some ⟨g2, 0, none⟩)) (fa46_0_0 g2) _ rfl rfl) rfl ?_)
              | ((with_reducible refine gate_d (N := 128) rfl ?_); refine ag_fix (.agg (bv b)) (ex_load boardT g2 0 (pv b t c e) (bv b) M.out.k2 (xv_lea HB.out) (xv_exa HB.out) _ rfl rfl) rfl ?_)
              | ((with_reducible refine gate_d (N := 129) rfl ?_); refine ag_fix (.pointer (some ⟨g3, 0, none⟩)) (ex_field 75 0 (.pointer (some ⟨g3, 0, none⟩)) (.pointer (some ⟨g3, 0, none⟩)) (fa75_0_0 g3) _ rfl rfl) rfl ?_)
              | ((with_reducible refine gate_d (N := 130) rfl ?_); refine ag_fix (.int .i64 f) (ex_get sT3 g3 0 (.int .i64 f) (#[.int .i64 f, .int .i64 o, .int .i64 p]) M.out.k3 rfl _ rfl rfl) rfl ?_)
              | (go_at_call 83; clear t1; refine (i_alfilref09_Pawn.calls b f HB.out _ _ HPW.out).mono ?_; rintro e_ w_ ⟨rfl, hb_⟩; rw [HPA.out]; have Mp := hid (M.out.go hb_); clear hb_ M)
              | ((with_reducible refine gate_d (N := 133) rfl ?_); refine ag_fix (.pointer (some ⟨g3, 1, none⟩)) (ex_field 75 1 (.pointer (some ⟨g3, 0, none⟩)) (.pointer (some ⟨g3, 1, none⟩)) (fa75_1_0 g3) _ rfl rfl) rfl ?_)
              | ((with_reducible refine gate_d (N := 134) rfl ?_); refine ag_fix (.int .i64 o) (ex_get sT3 g3 1 (.int .i64 o) (#[.int .i64 f, .int .i64 o, .int .i64 p]) Mp.out.k3 rfl _ rfl rfl) rfl ?_)
              | ((with_reducible refine gate_d (N := 135) rfl ?_); refine ag_fix (.pointer (some ⟨g3, 0, none⟩)) (ex_field 75 0 (.pointer (some ⟨g3, 0, none⟩)) (.pointer (some ⟨g3, 0, none⟩)) (fa75_0_0 g3) _ rfl rfl) rfl ?_)
              | ((with_reducible refine gate_d (N := 136) rfl ?_); refine ag_fix (.int .i64 f) (ex_get sT3 g3 0 (.int .i64 f) (#[.int .i64 f, .int .i64 o, .int .i64 p]) Mp.out.k3 rfl _ rfl rfl) rfl ?_)
              | ((with_reducible refine gate_d (N := 140) rfl ?_); refine ag_fix (.pointer (some ⟨g3, 0, none⟩)) (ex_field 75 0 (.pointer (some ⟨g3, 0, none⟩)) (.pointer (some ⟨g3, 0, none⟩)) (fa75_0_0 g3) _ rfl rfl) rfl ?_)
              | ((with_reducible refine gate_d (N := 141) rfl ?_); refine ag_fix (.int .i64 f) (ex_get sT3 g3 0 (.int .i64 f) (#[.int .i64 f, .int .i64 o, .int .i64 p]) Mp.out.k3 rfl _ rfl rfl) rfl ?_)
              | ((with_reducible refine gate_d (N := 142) rfl ?_); refine ag_fix (.pointer (some ⟨g3, 1, none⟩)) (ex_field 75 1 (.pointer (some ⟨g3, 0, none⟩)) (.pointer (some ⟨g3, 1, none⟩)) (fa75_1_0 g3) _ rfl rfl) rfl ?_)
              | ((with_reducible refine gate_d (N := 143) rfl ?_); refine ag_fix (.int .i64 o) (ex_get sT3 g3 1 (.int .i64 o) (#[.int .i64 f, .int .i64 o, .int .i64 p]) Mp.out.k3 rfl _ rfl rfl) rfl ?_)
              | ((with_reducible refine gate_d (N := 155) rfl ?_); refine ag_fix (.agg (pv B6 (wrap64 (1 - t)) C4 (-1))) (ex_load posT g5 0 _ _ Mp.out.k5 (xv_le Mp.out.ln 67 rfl) (xv_ex Mp.out.ln 67 rfl) _ rfl rfl) rfl ?_)
              | ((with_reducible refine gate_s (t := 46) (p := 4) rfl ?_); clear t3; refine ag_store posT g4 0 (pv zL 0 0 0) (pv B6 (wrap64 (1 - t)) C4 (-1)) (pv B6 (wrap64 (1 - t)) C4 (-1)) Mp.out.k4 (pv_sz Mp.out.ln) (xv_le zL_len 67 rfl) (xv_one (fun _ => rfl) (by intro v_ hv_; simp at hv_; rcases hv_ with rfl | rfl | rfl <;> rfl)) (xv_put zL_len Mp.out.ln rfl) rfl _ _ rfl rfl rfl ?_; intro wz ho_ hB_; have HZ := hid (ho_.below Mp.out.hl Mp.out.ge.1); have BKz := hid hB_; have LNz := hid Mp.out.ln; clear ho_ hB_ Mp))
            (try simp only [Act.put, sI, sZ, sS])
            refine bodyPost_ret (v := .agg (pv B6 (wrap64 (1 - t)) C4 (-1))) (ag_result posT rfl _ _ _ BKz.out (pv_sz LNz.out) rfl) rfl ⟨by show _ = Ending.returned _; rw [HB6.out, HC4.out, W1.out, show epZ b f o = -1 from if_neg (by rintro ⟨h1_, h2_⟩; rcases h2_ with h2_ | h2_; exact HQ1.out h2_; exact HQ2.out h2_)], HZ.out⟩
end Go.Proofs.Ytpjocgebnodnoaa
