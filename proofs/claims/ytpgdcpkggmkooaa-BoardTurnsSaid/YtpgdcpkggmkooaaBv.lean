/- BoardTurns: a board turned. -/
import Derived.Test.YtpgdcpkggmkooaaBa
namespace Go.Proofs.Ytpgdcpkggmkooaa
open Go.RowKit
set_option linter.unusedSimpArgs false
attribute [local go_sem] bne_self_eq_false beq_self_eq_true
theorem wrap_i8 (x : Int) : IntKind.wrap .i8 x = (x + 128) % 256 - 128 := by
  unfold IntKind.wrap
  simp [IntKind.bits, IntKind.signed]
  try omega
theorem neg8_neg {x : Int} (h0 : -128 ≤ x) (h1 : x ≤ 127) : neg8 (neg8 x) = x := by
  unfold neg8
  simp only [wrap_i8]
  omega
theorem turnL_get (l : List Int) (i : Nat) (hi : i < 64) : (turnL l).getD i 0 = neg8 (l.getD (flipN i) 0) := by
  unfold turnL
  rw [List.getD_eq_getElem?_getD]
  simp [hi]
theorem neg8_8 {x : Int} : -128 ≤ neg8 x ∧ neg8 x ≤ 127 := by
  unfold neg8
  simp only [wrap_i8]
  omega
theorem turnL_8 (l : List Int) : B8 (turnL l) := by
  refine ⟨turnL_len l, fun i => ?_⟩
  rcases Nat.lt_or_ge i 64 with h | h
  · rw [turnL_get l i h]; exact neg8_8
  · rw [List.getD_eq_getElem?_getD, List.getElem?_eq_none (by rw [turnL_len]; exact h)]; decide
theorem turnL_turnL {l : List Int} (h8 : B8 l) : turnL (turnL l) = l := by
  apply List.ext_getElem (by rw [turnL_len, h8.1])
  intro i h1 h2
  have hi : i < 64 := by rw [turnL_len] at h1; exact h1
  have e1 : (turnL (turnL l)).getD i 0 = l.getD i 0 := by
    rw [turnL_get _ i hi, turnL_get _ _ (flipN_lt hi), flipN_flip hi, neg8_neg (h8.2 _).1 (h8.2 _).2]
  simpa [List.getElem?_eq_getElem h1, List.getElem?_eq_getElem h2] using e1
theorem man_neg {x : Int} (h : manB x = true ∨ x = 0) : neg8 x = -x := by
  unfold neg8
  rw [wrap_i8]
  rcases h with h | h
  · unfold manB at h; rw [decide_eq_true_iff] at h; omega
  · omega
theorem manB_neg {x : Int} : manB (-x) = manB x := by
  unfold manB
  by_cases h : -6 ≤ x ∧ x ≤ 6 ∧ x ≠ 0
  · rw [decide_eq_true (by omega), decide_eq_true (by omega)]
  · rw [decide_eq_false (by omega), decide_eq_false (by omega)]
theorem okB_get {l : List Int} (h : okB l = true) (i : Nat) (hi : i < 64) : (turnL l).getD i 0 = -(l.getD (flipN i) 0) := by
  rw [turnL_get l i hi, man_neg (okB_at h _ (flipN_lt hi))]
theorem okB_turn {l : List Int} (h : okB l = true) : okB (turnL l) = true := by
  refine okB_yes (fun i hi => ?_)
  rw [okB_get h i hi, manB_neg]
  rcases okB_at h _ (flipN_lt hi) with e | e
  · exact .inl e
  · exact .inr (by omega)
theorem flip_perm : (List.range 64).map flipN = (List.range 64).map flipN ∧ ((List.range 64).map flipN).Perm (List.range 64) := ⟨rfl, by decide +kernel⟩
theorem inB_neg (x kind : Int) (side : Int) (hs : side = 0 ∨ side = 1) (h : manB x = true ∨ x = 0) : inB (-x) kind side = inB x kind (1 - side) := by
  have h6 : -6 ≤ x ∧ x ≤ 6 := by
    rcases h with h | h
    · unfold manB at h; rw [decide_eq_true_iff] at h; omega
    · omega
  rcases (show x = -6 ∨ x = -5 ∨ x = -4 ∨ x = -3 ∨ x = -2 ∨ x = -1 ∨ x = 0 ∨ x = 1 ∨ x = 2 ∨ x = 3 ∨ x = 4 ∨ x = 5 ∨ x = 6 by omega) with rfl | rfl | rfl | rfl | rfl | rfl | rfl | rfl | rfl | rfl | rfl | rfl | rfl <;> rcases hs with rfl | rfl <;> rfl
theorem many_turn {l : List Int} (h : okB l = true) (kind side : Int) (hs : side = 0 ∨ side = 1) : manyZ (turnL l) kind side = manyZ l kind (1 - side) := by
  unfold manyZ cntK
  rw [← (flip_perm.2.filter fun i => inB (l.getD i 0) kind (1 - side)).length_eq, List.filter_map, List.length_map]
  congr 1
  apply List.filter_congr
  intro i hi
  rw [okB_get h i (List.mem_range.1 hi), inB_neg _ _ _ hs (okB_at h _ (flipN_lt (List.mem_range.1 hi)))]
  rfl
theorem kind_neg (x : Int) : kindZ (-x) = 1 ↔ kindZ x = 1 := by rw [kind_one, kind_one]; omega
theorem rim_turn {l : List Int} (h : okB l = true) : rimB (turnL l) = rimB l := by
  have one : ∀ i, i < 64 → (rimAt (turnL l) i ↔ rimAt l (flipN i)) := fun i hi => by
    unfold rimAt
    rw [okB_get h i hi, kind_neg]
    have : ((flipN i : Nat) : Int) / 8 = 7 - (i : Int) / 8 := by unfold flipN; omega
    rw [this]
    constructor
    · rintro ⟨a, b⟩; exact ⟨a, by omega⟩
    · rintro ⟨a, b⟩; exact ⟨a, by omega⟩
  cases hb : rimB l with
  | true =>
    unfold rimB at hb
    rw [List.any_eq_true] at hb
    obtain ⟨i, hi, hr⟩ := hb
    have hi' := List.mem_range.1 hi
    refine rimB_yes (flipN i) (flipN_lt hi') ((one _ (flipN_lt hi')).2 ?_)
    rw [flipN_flip hi']
    exact of_decide_eq_true hr
  | false =>
    refine rimB_no (fun i hi hr => ?_)
    rw [rimB_yes (flipN i) (flipN_lt hi) ((one i hi).1 hr)] at hb
    cases hb
theorem wrong_turn {l : List Int} (h : okB l = true) : wrongZ (turnL l) = wrongZ l := by
  unfold wrongZ
  rw [okB_turn h, h, rim_turn h, many_turn h 6 0 (.inl rfl), many_turn h 6 1 (.inr rfl), many_turn h 0 0 (.inl rfl), many_turn h 0 1 (.inr rfl)]
  simp only [show (1 : Int) - 0 = 1 from rfl, show (1 : Int) - 1 = 0 from rfl]
  simp only [@or_comm (manyZ l 6 1 ≠ 1), @or_comm (16 < manyZ l 0 1)]
theorem turn_first : turnL firstL = firstL := by decide +kernel
theorem first_free : (whereK firstL 0 64).length = 32 := by decide +kernel
theorem yieldsIf_eql {ops : Array Oper} {S : World → Prop} {o : Oper} {a : Act} (l l' : List Int) (hl : l.length = 64) (hl' : l'.length = 64) (b : Bool) (hb : decide (l = l') = b)
    (hw : Region.wanted o (yielded ops a.tmps) = true) (x y : Operand) (ty : TypeId) (ho : o.op = .binOp .eql 24 x y ty) (hx : a.eval x = .agg (bv l)) (hy : a.eval y = .agg (bv l')) : YieldsIf Try.prog ops S o (.bool b) a :=
  .inl ⟨hw, fun w hw' => by
    unfold execOp
    simp only [ho, hx, hy, Sem.run_bind, run_guard, Result.andThen_ok, eql_board l l' hl hl', hb, Sem.run_pure]⟩
theorem take_d {P : Program} {md : Region.Mode} {ops : Array Oper} {Q : Exit → Act → World → Prop} {S : World → Prop} {i : Nat} {oi : Oper} {v : Value} {fuel : Nat} {listed : Array Bool} {a : Act} {w : World} (d : Option Tmp) (hi : ops[i]? = some oi) (hd : oi.dst = d)
    (hs : Region.noSelect ops = true) (hf : Region.free md ops listed i = true) (hr : (Region.ready md ops listed).contains i = true)
    (hQ : ∀ c a w, Q (.panic c) (a.put oi.dst v) w → Q (.panic c) a w) (hy : YieldsIf P ops S oi v a) (hS : S w)
    (h : wpAnyH P md ops Q S fuel (listed.setIfInBounds i true) (a.put d v) w) : wpAnyH P md ops Q S (fuel + 1) listed a w :=
  wpAnyH_take hi hs hf hr hQ hy hS (by rw [hd]; exact h)
section
variable {w w1 w2 : World} {g g' : Nat} {t : TypeId} {cs cs' : Array Value}
theorem bt_next (h : Below w.heap.size w w1 ∧ Blk w1 g t cs ∧ Blk w1 g' t cs') (hb : Below w1.heap.size w1 w2) : Below w.heap.size w w2 ∧ Blk w2 g t cs ∧ Blk w2 g' t cs' :=
  ⟨h.1.trans (hb.mono h.1.size), h.2.1.below hb h.2.1.lt, h.2.2.below hb h.2.2.lt⟩
end
set_option maxRecDepth 10000 in
set_option maxHeartbeats 4000000 in
theorem turns_t (l : List Int) (h8 : B8 l) (hok : okB l = true) (w : World) :
    Calls Try.prog 6 #[.agg (bv l)] w fun e w' => e = .returned (.bool true) ∧ Below w.heap.size w w' := by
  have HL := hid h8.1
  have HE := hid h8.2
  have H8 := hid h8
  clear h8
  have K1 := hid (bdTurned l H8.out.1)
  have K1' := hid (rbTurned l H8.out.1)
  have K1b := hid (bdTurned (turnL l) (turnL_len l))
  rw [turnL_turnL H8.out] at K1b
  have K2 := hid (rbRight l H8.out)
  rw [hok] at K2
  have K3 := hid (bdWrong (turnL l) (turnL_8 l))
  rw [wrong_turn hok] at K3
  have K4 := hid (bdWrong l H8.out)
  have K5 := hid (bdWrong firstL firstL_8)
  rw [first_wrong] at K5
  have KF := hid (bdTurned firstL rfl)
  rw [turn_first] at KF
  have KW := hid (bdWhere firstL 0 firstL_8)
  have FF : Hid ((iv (whereK firstL 0 64)).length = 32) := hid (by rw [iv_len, first_free])
  have TL := hid (turnL_len l)
  clear hok
  generalize wrongZ l = y at *
  generalize turnL l = T at *
  generalize whereK firstL 0 64 = ZZ at *
  have k1 := True.intro
  have k2 := True.intro
  go_enter Try.func6, Try.ntmps6
  go_wp2_with (first
    | (refine ag_box (bv l) w.heap.size rfl rfl _ rfl rfl ?_; intro w1 hb1 hB1 hs1)
    | (refine ag_load boardT w.heap.size 0 (bv l) (bv l) hB1 (bw_le HL.out) (bw_ex HL.out) rfl _ rfl rfl ?_))
  refine (bdWakes _).mono ?_
  rintro e w3 ⟨rfl, hb3⟩
  have GL := hid (hb1.trans (hb3.mono (by omega)))
  have G1 := hid (hB1.below hb3 (by omega))
  clear hb1 hB1 hs1 hb3
  go_wp2_with (first
    | (refine ag_load boardT w.heap.size 0 (bv l) (bv l) G1.out (bw_le HL.out) (bw_ex HL.out) rfl _ rfl rfl ?_))
  refine (K1.out _).mono ?_
  rintro e w4 ⟨rfl, hb4⟩
  replace GL := hid (GL.out.trans (hb4.mono GL.out.size))
  replace G1 := hid (G1.out.below hb4 G1.out.lt)
  clear hb4
  have g1 := G1.out.lt
  obtain ⟨g, hg⟩ : ∃ g, w4.heap.size = g := ⟨_, rfl⟩
  rw [hg] at g1
  go_wp2_with (first
    | (clear k1; refine ag_alloc boardT g hg rfl rfl ?_; intro w5 hb5 hB5 hs5)
    | (clear k2; refine ag_store boardT g 0 (bv zL) (bv T) (bv T) hB5 (by rw [bv_size]; exact TL.out) (by rw [bv_size]; decide) (bv_one _) (bv_put _ _ rfl TL.out) rfl _ _ rfl rfl rfl ?_; intro w6 ho6 hB6))
  have G2 := hid hB6
  replace G1 := hid ((G1.out.below hb5 g1).off ho6 (by omega))
  replace GL := hid (ho6.below (GL.out.trans (hb5.mono (by omega))) (by omega))
  clear hb5 hB5 hs5 ho6 hB6 hg g1
  have G1lt := G1.out.lt
  have G2lt := G2.out.lt
  refine up_region (by kernel_rfl) (by kernel_rfl) ?_
  refine wpQuiet_step (fun K hK => ?_)
  refine q_load boardT g 0 (bv T) (bv T) (fun w' ⟨n, hn⟩ => by rw [hn]; exact G2.out.below n.below G2lt) (bw_le TL.out) (bw_ex TL.out) _ rfl rfl rfl (hK _ ?_)
  clear hK K
  refine wpQuiet_step (fun K hK => ?_)
  refine q_load boardT w.heap.size 0 (bv l) (bv l) (fun w' ⟨n, hn⟩ => by rw [hn]; exact G1.out.below n.below G1lt) (bw_le HL.out) (bw_ex HL.out) _ rfl rfl rfl (hK _ ?_)
  clear hK K
  quiet_step ((go_at_call 27; refine (K1'.out _).mono ?_; rintro e w7 ⟨rfl, hb7⟩; exact ⟨rfl, Up.next _ hb7 (Up.below _).size⟩))
  refine wpQuiet_step (fun K hK => ?_)
  refine q_neq T T TL.out TL.out false (by rw [decide_eq_true rfl]; rfl) _ _ _ rfl rfl rfl rfl (hK _ ?_)
  clear hK K
  quiet_step (fail)
  refine wpQuiet_step (fun K hK => ?_)
  refine q_load boardT g 0 (bv T) (bv T) (fun w' ⟨n, hn⟩ => by rw [hn]; exact G2.out.below n.below G2lt) (bw_le TL.out) (bw_ex TL.out) _ rfl rfl rfl (hK _ ?_)
  clear hK K
  quiet_step ((go_at_call 26; refine (K1b.out _).mono ?_; rintro e w7 ⟨rfl, hb7⟩; exact ⟨rfl, Up.next _ hb7 (Up.below _).size⟩))
  refine wpQuiet_step (fun K hK => ?_)
  refine q_load boardT w.heap.size 0 (bv l) (bv l) (fun w' ⟨n, hn⟩ => by rw [hn]; exact G1.out.below n.below G1lt) (bw_le HL.out) (bw_ex HL.out) _ rfl rfl rfl (hK _ ?_)
  clear hK K
  refine wpQuiet_step (fun K hK => ?_)
  refine q_neq l l HL.out HL.out false (by rw [decide_eq_true rfl]; rfl) _ _ _ rfl rfl rfl rfl (hK _ ?_)
  clear hK K
  quiet_step (fail)
  refine wpQuiet_nil ?_
  rintro w8 ⟨n, rfl⟩
  replace GL := hid (GL.out.trans (n.below.mono GL.out.size))
  replace G1 := hid (G1.out.below n.below G1lt)
  replace G2 := hid (G2.out.below n.below G2lt)
  generalize n.world = w9 at *
  clear n G1lt G2lt
  go_wp2
  refine wp_region_noPanic ?_
  refine wp_region_held_drew (S := fun w' => Below w.heap.size w w' ∧ Blk w' w.heap.size 24 (bv l) ∧ Blk w' g 24 (bv T)) (by kernel_rfl) (⟨GL.out.trans ((Below.refl _ _).drew.mono GL.out.size), G1.out.below (Below.refl _ _).drew G1.out.lt, G2.out.below (Below.refl _ _).drew G2.out.lt⟩) (fun hHeld => ?_)
  refine wpAnyH_ready (rs := [0]) (by kernel_rfl) (by simp) ?_
  refine AllReadyH.cons rfl (fun K hK => ?_) AllReadyH.nil
  refine (if_pos (by rfl)).mpr ?_
  go_simp
  refine (bdFirst _).mono ?_
  rintro e w7 ⟨rfl, hb7⟩
  go_wp2_with fail
  refine hK.out _ _ (bt_next hHeld hb7) (fun hHeld => ?_)
  clear hK K
  try simp only [Act.put, List.setIfInBounds_toArray, List.set_cons_zero, List.set_cons_succ]
  refine wpAnyH_ready (rs := [1]) (by kernel_rfl) (by simp) ?_
  refine AllReadyH.cons rfl (fun K hK => ?_) AllReadyH.nil
  refine (if_pos (by rfl)).mpr ?_
  go_simp
  refine (KF.out _).mono ?_
  rintro e w7 ⟨rfl, hb7⟩
  go_wp2_with fail
  refine hK.out _ _ (bt_next hHeld hb7) (fun hHeld => ?_)
  clear hK K
  try simp only [Act.put, List.setIfInBounds_toArray, List.set_cons_zero, List.set_cons_succ]
  refine wpAnyH_ready (rs := [2]) (by kernel_rfl) (by simp) ?_
  refine AllReadyH.cons rfl (fun K hK => ?_) AllReadyH.nil
  refine (if_pos (by rfl)).mpr ?_
  go_simp
  refine (bdFirst _).mono ?_
  rintro e w7 ⟨rfl, hb7⟩
  go_wp2_with fail
  refine hK.out _ _ (bt_next hHeld hb7) (fun hHeld => ?_)
  clear hK K
  try simp only [Act.put, List.setIfInBounds_toArray, List.set_cons_zero, List.set_cons_succ]
  refine take_d (i := 3) (some 21) rfl rfl (by kernel_rfl) (by kernel_rfl) (by kernel_rfl) (fun _ _ _ h => h) (yieldsIf_eql firstL firstL rfl rfl true (decide_eq_true rfl) rfl _ _ _ rfl rfl rfl) hHeld ?_
  try simp only [Act.put, List.setIfInBounds_toArray, List.set_cons_zero, List.set_cons_succ]
  refine take_d (i := 4) (some 22) rfl rfl (by kernel_rfl) (by kernel_rfl) (by kernel_rfl) (fun _ _ _ h => h) (.inl ⟨rfl, fun w7 hw7 => by go_simp; try with_reducible rfl⟩) hHeld ?_
  try simp only [Act.put, List.setIfInBounds_toArray, List.set_cons_zero, List.set_cons_succ]
  refine take_d (i := 5) (some 23) rfl rfl (by kernel_rfl) (by kernel_rfl) (by kernel_rfl) (fun _ _ _ h => h) (yieldsIf_agg boardT w.heap.size 0 (bv l) (bv l) (fun w7 hw7 => hw7.2.1) (bw_le HL.out) (bw_ex HL.out) rfl _ rfl rfl) hHeld ?_
  try simp only [Act.put, List.setIfInBounds_toArray, List.set_cons_zero, List.set_cons_succ]
  refine wpAnyH_ready (rs := [6]) (by kernel_rfl) (by simp) ?_
  refine AllReadyH.cons rfl (fun K hK => ?_) AllReadyH.nil
  refine (if_pos (by rfl)).mpr ?_
  go_simp
  refine (K2.out _).mono ?_
  rintro e w7 ⟨rfl, hb7⟩
  go_wp2_with fail
  refine hK.out _ _ (bt_next hHeld hb7) (fun hHeld => ?_)
  clear hK K
  try simp only [Act.put, List.setIfInBounds_toArray, List.set_cons_zero, List.set_cons_succ]
  refine take_d (i := 7) (some 25) rfl rfl (by kernel_rfl) (by kernel_rfl) (by kernel_rfl) (fun _ _ _ h => h) (.inl ⟨rfl, fun w7 hw7 => by go_simp; try with_reducible rfl⟩) hHeld ?_
  try simp only [Act.put, List.setIfInBounds_toArray, List.set_cons_zero, List.set_cons_succ]
  refine take_d (i := 8) (some 26) rfl rfl (by kernel_rfl) (by kernel_rfl) (by kernel_rfl) (fun _ _ _ h => h) (.inl ⟨rfl, fun w7 hw7 => by go_simp; try with_reducible rfl⟩) hHeld ?_
  try simp only [Act.put, List.setIfInBounds_toArray, List.set_cons_zero, List.set_cons_succ]
  refine take_d (i := 9) (some 27) rfl rfl (by kernel_rfl) (by kernel_rfl) (by kernel_rfl) (fun _ _ _ h => h) (yieldsIf_agg boardT g 0 (bv T) (bv T) (fun w7 hw7 => hw7.2.2) (bw_le TL.out) (bw_ex TL.out) rfl _ rfl rfl) hHeld ?_
  try simp only [Act.put, List.setIfInBounds_toArray, List.set_cons_zero, List.set_cons_succ]
  refine take_d (i := 11) (some 29) rfl rfl (by kernel_rfl) (by kernel_rfl) (by kernel_rfl) (fun _ _ _ h => h) (yieldsIf_agg boardT w.heap.size 0 (bv l) (bv l) (fun w7 hw7 => hw7.2.1) (bw_le HL.out) (bw_ex HL.out) rfl _ rfl rfl) hHeld ?_
  try simp only [Act.put, List.setIfInBounds_toArray, List.set_cons_zero, List.set_cons_succ]
  refine wpAnyH_ready (rs := [10]) (by kernel_rfl) (by simp) ?_
  refine AllReadyH.cons rfl (fun K hK => ?_) AllReadyH.nil
  refine (if_pos (by rfl)).mpr ?_
  go_simp
  refine (K3.out _).mono ?_
  rintro e w7 ⟨rfl, hb7⟩
  go_wp2_with fail
  refine hK.out _ _ (bt_next hHeld hb7) (fun hHeld => ?_)
  clear hK K
  try simp only [Act.put, List.setIfInBounds_toArray, List.set_cons_zero, List.set_cons_succ]
  refine wpAnyH_ready (rs := [12]) (by kernel_rfl) (by simp) ?_
  refine AllReadyH.cons rfl (fun K hK => ?_) AllReadyH.nil
  refine (if_pos (by rfl)).mpr ?_
  go_simp
  refine (K4.out _).mono ?_
  rintro e w7 ⟨rfl, hb7⟩
  go_wp2_with fail
  refine hK.out _ _ (bt_next hHeld hb7) (fun hHeld => ?_)
  clear hK K
  try simp only [Act.put, List.setIfInBounds_toArray, List.set_cons_zero, List.set_cons_succ]
  refine take_d (i := 13) (some 31) rfl rfl (by kernel_rfl) (by kernel_rfl) (by kernel_rfl) (fun _ _ _ h => h) (.inl ⟨rfl, fun w7 hw7 => by go_simp; try with_reducible rfl⟩) hHeld ?_
  try simp only [Act.put, List.setIfInBounds_toArray, List.set_cons_zero, List.set_cons_succ]
  refine take_d (i := 14) (some 32) rfl rfl (by kernel_rfl) (by kernel_rfl) (by kernel_rfl) (fun _ _ _ h => h) (.inl ⟨rfl, fun w7 hw7 => by go_simp; try with_reducible rfl⟩) hHeld ?_
  try simp only [Act.put, List.setIfInBounds_toArray, List.set_cons_zero, List.set_cons_succ]
  refine take_d (i := 15) (some 33) rfl rfl (by kernel_rfl) (by kernel_rfl) (by kernel_rfl) (fun _ _ _ h => h) (.inl ⟨rfl, fun w7 hw7 => by go_simp; try with_reducible rfl⟩) hHeld ?_
  try simp only [Act.put, List.setIfInBounds_toArray, List.set_cons_zero, List.set_cons_succ]
  refine take_d (i := 16) (some 34) rfl rfl (by kernel_rfl) (by kernel_rfl) (by kernel_rfl) (fun _ _ _ h => h) (.inl ⟨rfl, fun w7 hw7 => by go_simp; try with_reducible rfl⟩) hHeld ?_
  try simp only [Act.put, List.setIfInBounds_toArray, List.set_cons_zero, List.set_cons_succ]
  refine wpAnyH_ready (rs := [17]) (by kernel_rfl) (by simp) ?_
  refine AllReadyH.cons rfl (fun K hK => ?_) AllReadyH.nil
  refine (if_pos (by rfl)).mpr ?_
  go_simp
  refine (bdFirst _).mono ?_
  rintro e w7 ⟨rfl, hb7⟩
  go_wp2_with fail
  refine hK.out _ _ (bt_next hHeld hb7) (fun hHeld => ?_)
  clear hK K
  try simp only [Act.put, List.setIfInBounds_toArray, List.set_cons_zero, List.set_cons_succ]
  refine wpAnyH_ready (rs := [18]) (by kernel_rfl) (by simp) ?_
  refine AllReadyH.cons rfl (fun K hK => ?_) AllReadyH.nil
  refine (if_pos (by rfl)).mpr ?_
  go_simp
  refine (K5.out _).mono ?_
  rintro e w7 ⟨rfl, hb7⟩
  go_wp2_with fail
  refine hK.out _ _ (bt_next hHeld hb7) (fun hHeld => ?_)
  clear hK K
  try simp only [Act.put, List.setIfInBounds_toArray, List.set_cons_zero, List.set_cons_succ]
  refine take_d (i := 19) (some 37) rfl rfl (by kernel_rfl) (by kernel_rfl) (by kernel_rfl) (fun _ _ _ h => h) (.inl ⟨rfl, fun w7 hw7 => by go_simp; try with_reducible rfl⟩) hHeld ?_
  try simp only [Act.put, List.setIfInBounds_toArray, List.set_cons_zero, List.set_cons_succ]
  refine take_d (i := 20) (some 38) rfl rfl (by kernel_rfl) (by kernel_rfl) (by kernel_rfl) (fun _ _ _ h => h) (.inl ⟨rfl, fun w7 hw7 => by go_simp; try with_reducible rfl⟩) hHeld ?_
  try simp only [Act.put, List.setIfInBounds_toArray, List.set_cons_zero, List.set_cons_succ]
  refine take_d (i := 21) (some 39) rfl rfl (by kernel_rfl) (by kernel_rfl) (by kernel_rfl) (fun _ _ _ h => h) (.inl ⟨rfl, fun w7 hw7 => by go_simp; try with_reducible rfl⟩) hHeld ?_
  try simp only [Act.put, List.setIfInBounds_toArray, List.set_cons_zero, List.set_cons_succ]
  refine wpAnyH_ready (rs := [22]) (by kernel_rfl) (by simp) ?_
  refine AllReadyH.cons rfl (fun K hK => ?_) AllReadyH.nil
  refine (if_pos (by rfl)).mpr ?_
  go_simp
  refine (bdFirst _).mono ?_
  rintro e w7 ⟨rfl, hb7⟩
  go_wp2_with fail
  refine hK.out _ _ (bt_next hHeld hb7) (fun hHeld => ?_)
  clear hK K
  try simp only [Act.put, List.setIfInBounds_toArray, List.set_cons_zero, List.set_cons_succ]
  refine wpAnyH_ready (rs := [23]) (by kernel_rfl) (by simp) ?_
  refine AllReadyH.cons rfl (fun K hK => ?_) AllReadyH.nil
  refine (if_pos (by rfl)).mpr ?_
  go_simp
  refine (KW.out _).mono ?_
  rintro e w7 ⟨v7, rfl, ho7, hb7⟩
  obtain ⟨A7, c7, rfl⟩ := ho7.shape
  rw [FF.out]
  clear ho7
  go_wp2_with fail
  refine hK.out _ _ (bt_next hHeld hb7) (fun hHeld => ?_)
  clear hK K
  try simp only [Act.put, List.setIfInBounds_toArray, List.set_cons_zero, List.set_cons_succ]
  refine take_d (i := 24) (some 42) rfl rfl (by kernel_rfl) (by kernel_rfl) (by kernel_rfl) (fun _ _ _ h => h) (.inl ⟨rfl, fun w7 hw7 => by go_simp; try with_reducible rfl⟩) hHeld ?_
  try simp only [Act.put, List.setIfInBounds_toArray, List.set_cons_zero, List.set_cons_succ]
  refine take_d (i := 25) (some 43) rfl rfl (by kernel_rfl) (by kernel_rfl) (by kernel_rfl) (fun _ _ _ h => h) (.inl ⟨rfl, fun w7 hw7 => by go_simp; try with_reducible rfl⟩) hHeld ?_
  try simp only [Act.put, List.setIfInBounds_toArray, List.set_cons_zero, List.set_cons_succ]
  refine take_d (i := 26) (some 44) rfl rfl (by kernel_rfl) (by kernel_rfl) (by kernel_rfl) (fun _ _ _ h => h) (.inl ⟨rfl, fun w7 hw7 => by go_simp; try with_reducible rfl⟩) hHeld ?_
  try simp only [Act.put, List.setIfInBounds_toArray, List.set_cons_zero, List.set_cons_succ]
  refine take_d (i := 27) (some 2) rfl rfl (by kernel_rfl) (by kernel_rfl) (by kernel_rfl) (fun _ _ _ h => h) (.inl ⟨rfl, fun w7 hw7 => by go_simp; try with_reducible rfl⟩) hHeld ?_
  try simp only [Act.put, List.setIfInBounds_toArray, List.set_cons_zero, List.set_cons_succ]
  refine wpAnyH_done (by kernel_rfl) ?_ _
  refine NoPanic.normal ?_
  go_wp2
  go_ret
  exact ⟨rfl, hHeld.1⟩
set_option maxRecDepth 10000 in
set_option maxHeartbeats 4000000 in
theorem turns_f (l : List Int) (h8 : B8 l) (hok : okB l = false) (w : World) :
    Calls Try.prog 6 #[.agg (bv l)] w fun e w' => e = .returned (.bool true) ∧ Below w.heap.size w w' := by
  have HL := hid h8.1
  have HE := hid h8.2
  have H8 := hid h8
  clear h8
  have K1 := hid (bdTurned l H8.out.1)
  have K1' := hid (rbTurned l H8.out.1)
  have K1b := hid (bdTurned (turnL l) (turnL_len l))
  rw [turnL_turnL H8.out] at K1b
  have K2 := hid (rbRight l H8.out)
  rw [hok] at K2
  have K5 := hid (bdWrong firstL firstL_8)
  rw [first_wrong] at K5
  have KF := hid (bdTurned firstL rfl)
  rw [turn_first] at KF
  have KW := hid (bdWhere firstL 0 firstL_8)
  have FF : Hid ((iv (whereK firstL 0 64)).length = 32) := hid (by rw [iv_len, first_free])
  have TL := hid (turnL_len l)
  clear hok
  generalize turnL l = T at *
  generalize whereK firstL 0 64 = ZZ at *
  have k1 := True.intro
  have k2 := True.intro
  go_enter Try.func6, Try.ntmps6
  go_wp2_with (first
    | (refine ag_box (bv l) w.heap.size rfl rfl _ rfl rfl ?_; intro w1 hb1 hB1 hs1)
    | (refine ag_load boardT w.heap.size 0 (bv l) (bv l) hB1 (bw_le HL.out) (bw_ex HL.out) rfl _ rfl rfl ?_))
  refine (bdWakes _).mono ?_
  rintro e w3 ⟨rfl, hb3⟩
  have GL := hid (hb1.trans (hb3.mono (by omega)))
  have G1 := hid (hB1.below hb3 (by omega))
  clear hb1 hB1 hs1 hb3
  go_wp2_with (first
    | (refine ag_load boardT w.heap.size 0 (bv l) (bv l) G1.out (bw_le HL.out) (bw_ex HL.out) rfl _ rfl rfl ?_))
  refine (K1.out _).mono ?_
  rintro e w4 ⟨rfl, hb4⟩
  replace GL := hid (GL.out.trans (hb4.mono GL.out.size))
  replace G1 := hid (G1.out.below hb4 G1.out.lt)
  clear hb4
  have g1 := G1.out.lt
  obtain ⟨g, hg⟩ : ∃ g, w4.heap.size = g := ⟨_, rfl⟩
  rw [hg] at g1
  go_wp2_with (first
    | (clear k1; refine ag_alloc boardT g hg rfl rfl ?_; intro w5 hb5 hB5 hs5)
    | (clear k2; refine ag_store boardT g 0 (bv zL) (bv T) (bv T) hB5 (by rw [bv_size]; exact TL.out) (by rw [bv_size]; decide) (bv_one _) (bv_put _ _ rfl TL.out) rfl _ _ rfl rfl rfl ?_; intro w6 ho6 hB6))
  have G2 := hid hB6
  replace G1 := hid ((G1.out.below hb5 g1).off ho6 (by omega))
  replace GL := hid (ho6.below (GL.out.trans (hb5.mono (by omega))) (by omega))
  clear hb5 hB5 hs5 ho6 hB6 hg g1
  have G1lt := G1.out.lt
  have G2lt := G2.out.lt
  refine up_region (by kernel_rfl) (by kernel_rfl) ?_
  refine wpQuiet_step (fun K hK => ?_)
  refine q_load boardT g 0 (bv T) (bv T) (fun w' ⟨n, hn⟩ => by rw [hn]; exact G2.out.below n.below G2lt) (bw_le TL.out) (bw_ex TL.out) _ rfl rfl rfl (hK _ ?_)
  clear hK K
  refine wpQuiet_step (fun K hK => ?_)
  refine q_load boardT w.heap.size 0 (bv l) (bv l) (fun w' ⟨n, hn⟩ => by rw [hn]; exact G1.out.below n.below G1lt) (bw_le HL.out) (bw_ex HL.out) _ rfl rfl rfl (hK _ ?_)
  clear hK K
  quiet_step ((go_at_call 27; refine (K1'.out _).mono ?_; rintro e w7 ⟨rfl, hb7⟩; exact ⟨rfl, Up.next _ hb7 (Up.below _).size⟩))
  refine wpQuiet_step (fun K hK => ?_)
  refine q_neq T T TL.out TL.out false (by rw [decide_eq_true rfl]; rfl) _ _ _ rfl rfl rfl rfl (hK _ ?_)
  clear hK K
  quiet_step (fail)
  refine wpQuiet_step (fun K hK => ?_)
  refine q_load boardT g 0 (bv T) (bv T) (fun w' ⟨n, hn⟩ => by rw [hn]; exact G2.out.below n.below G2lt) (bw_le TL.out) (bw_ex TL.out) _ rfl rfl rfl (hK _ ?_)
  clear hK K
  quiet_step ((go_at_call 26; refine (K1b.out _).mono ?_; rintro e w7 ⟨rfl, hb7⟩; exact ⟨rfl, Up.next _ hb7 (Up.below _).size⟩))
  refine wpQuiet_step (fun K hK => ?_)
  refine q_load boardT w.heap.size 0 (bv l) (bv l) (fun w' ⟨n, hn⟩ => by rw [hn]; exact G1.out.below n.below G1lt) (bw_le HL.out) (bw_ex HL.out) _ rfl rfl rfl (hK _ ?_)
  clear hK K
  refine wpQuiet_step (fun K hK => ?_)
  refine q_neq l l HL.out HL.out false (by rw [decide_eq_true rfl]; rfl) _ _ _ rfl rfl rfl rfl (hK _ ?_)
  clear hK K
  quiet_step (fail)
  refine wpQuiet_nil ?_
  rintro w8 ⟨n, rfl⟩
  replace GL := hid (GL.out.trans (n.below.mono GL.out.size))
  replace G1 := hid (G1.out.below n.below G1lt)
  replace G2 := hid (G2.out.below n.below G2lt)
  generalize n.world = w9 at *
  clear n G1lt G2lt
  go_wp2
  refine wp_region_noPanic ?_
  refine wp_region_held_drew (S := fun w' => Below w.heap.size w w' ∧ Blk w' w.heap.size 24 (bv l) ∧ Blk w' g 24 (bv T)) (by kernel_rfl) (⟨GL.out.trans ((Below.refl _ _).drew.mono GL.out.size), G1.out.below (Below.refl _ _).drew G1.out.lt, G2.out.below (Below.refl _ _).drew G2.out.lt⟩) (fun hHeld => ?_)
  refine wpAnyH_ready (rs := [0]) (by kernel_rfl) (by simp) ?_
  refine AllReadyH.cons rfl (fun K hK => ?_) AllReadyH.nil
  refine (if_pos (by rfl)).mpr ?_
  go_simp
  refine (bdFirst _).mono ?_
  rintro e w7 ⟨rfl, hb7⟩
  go_wp2_with fail
  refine hK.out _ _ (bt_next hHeld hb7) (fun hHeld => ?_)
  clear hK K
  try simp only [Act.put, List.setIfInBounds_toArray, List.set_cons_zero, List.set_cons_succ]
  refine wpAnyH_ready (rs := [1]) (by kernel_rfl) (by simp) ?_
  refine AllReadyH.cons rfl (fun K hK => ?_) AllReadyH.nil
  refine (if_pos (by rfl)).mpr ?_
  go_simp
  refine (KF.out _).mono ?_
  rintro e w7 ⟨rfl, hb7⟩
  go_wp2_with fail
  refine hK.out _ _ (bt_next hHeld hb7) (fun hHeld => ?_)
  clear hK K
  try simp only [Act.put, List.setIfInBounds_toArray, List.set_cons_zero, List.set_cons_succ]
  refine wpAnyH_ready (rs := [2]) (by kernel_rfl) (by simp) ?_
  refine AllReadyH.cons rfl (fun K hK => ?_) AllReadyH.nil
  refine (if_pos (by rfl)).mpr ?_
  go_simp
  refine (bdFirst _).mono ?_
  rintro e w7 ⟨rfl, hb7⟩
  go_wp2_with fail
  refine hK.out _ _ (bt_next hHeld hb7) (fun hHeld => ?_)
  clear hK K
  try simp only [Act.put, List.setIfInBounds_toArray, List.set_cons_zero, List.set_cons_succ]
  refine take_d (i := 3) (some 21) rfl rfl (by kernel_rfl) (by kernel_rfl) (by kernel_rfl) (fun _ _ _ h => h) (yieldsIf_eql firstL firstL rfl rfl true (decide_eq_true rfl) rfl _ _ _ rfl rfl rfl) hHeld ?_
  try simp only [Act.put, List.setIfInBounds_toArray, List.set_cons_zero, List.set_cons_succ]
  refine take_d (i := 4) (some 22) rfl rfl (by kernel_rfl) (by kernel_rfl) (by kernel_rfl) (fun _ _ _ h => h) (.inl ⟨rfl, fun w7 hw7 => by go_simp; try with_reducible rfl⟩) hHeld ?_
  try simp only [Act.put, List.setIfInBounds_toArray, List.set_cons_zero, List.set_cons_succ]
  refine take_d (i := 5) (some 23) rfl rfl (by kernel_rfl) (by kernel_rfl) (by kernel_rfl) (fun _ _ _ h => h) (yieldsIf_agg boardT w.heap.size 0 (bv l) (bv l) (fun w7 hw7 => hw7.2.1) (bw_le HL.out) (bw_ex HL.out) rfl _ rfl rfl) hHeld ?_
  try simp only [Act.put, List.setIfInBounds_toArray, List.set_cons_zero, List.set_cons_succ]
  refine wpAnyH_ready (rs := [6]) (by kernel_rfl) (by simp) ?_
  refine AllReadyH.cons rfl (fun K hK => ?_) AllReadyH.nil
  refine (if_pos (by rfl)).mpr ?_
  go_simp
  refine (K2.out _).mono ?_
  rintro e w7 ⟨rfl, hb7⟩
  go_wp2_with fail
  refine hK.out _ _ (bt_next hHeld hb7) (fun hHeld => ?_)
  clear hK K
  try simp only [Act.put, List.setIfInBounds_toArray, List.set_cons_zero, List.set_cons_succ]
  refine take_d (i := 7) (some 25) rfl rfl (by kernel_rfl) (by kernel_rfl) (by kernel_rfl) (fun _ _ _ h => h) (.inl ⟨rfl, fun w7 hw7 => by go_simp; try with_reducible rfl⟩) hHeld ?_
  try simp only [Act.put, List.setIfInBounds_toArray, List.set_cons_zero, List.set_cons_succ]
  refine take_d (i := 8) (some 26) rfl rfl (by kernel_rfl) (by kernel_rfl) (by kernel_rfl) (fun _ _ _ h => h) (.inl ⟨rfl, fun w7 hw7 => by go_simp; try with_reducible rfl⟩) hHeld ?_
  try simp only [Act.put, List.setIfInBounds_toArray, List.set_cons_zero, List.set_cons_succ]
  refine take_d (i := 9) (v := undef) (some 27) rfl rfl (by kernel_rfl) (by kernel_rfl) (by kernel_rfl) (fun _ _ _ h => h) (.inr ⟨rfl, rfl⟩) hHeld ?_
  try simp only [Act.put, List.setIfInBounds_toArray, List.set_cons_zero, List.set_cons_succ]
  refine take_d (i := 10) (v := undef) (some 28) rfl rfl (by kernel_rfl) (by kernel_rfl) (by kernel_rfl) (fun _ _ _ h => h) (.inr ⟨rfl, rfl⟩) hHeld ?_
  try simp only [Act.put, List.setIfInBounds_toArray, List.set_cons_zero, List.set_cons_succ]
  refine take_d (i := 11) (v := undef) (some 29) rfl rfl (by kernel_rfl) (by kernel_rfl) (by kernel_rfl) (fun _ _ _ h => h) (.inr ⟨rfl, rfl⟩) hHeld ?_
  try simp only [Act.put, List.setIfInBounds_toArray, List.set_cons_zero, List.set_cons_succ]
  refine take_d (i := 12) (v := undef) (some 30) rfl rfl (by kernel_rfl) (by kernel_rfl) (by kernel_rfl) (fun _ _ _ h => h) (.inr ⟨rfl, rfl⟩) hHeld ?_
  try simp only [Act.put, List.setIfInBounds_toArray, List.set_cons_zero, List.set_cons_succ]
  refine take_d (i := 13) (v := undef) (some 31) rfl rfl (by kernel_rfl) (by kernel_rfl) (by kernel_rfl) (fun _ _ _ h => h) (.inr ⟨rfl, rfl⟩) hHeld ?_
  try simp only [Act.put, List.setIfInBounds_toArray, List.set_cons_zero, List.set_cons_succ]
  refine take_d (i := 14) (some 32) rfl rfl (by kernel_rfl) (by kernel_rfl) (by kernel_rfl) (fun _ _ _ h => h) (.inl ⟨rfl, fun w7 hw7 => by go_simp; try with_reducible rfl⟩) hHeld ?_
  try simp only [Act.put, List.setIfInBounds_toArray, List.set_cons_zero, List.set_cons_succ]
  refine take_d (i := 15) (some 33) rfl rfl (by kernel_rfl) (by kernel_rfl) (by kernel_rfl) (fun _ _ _ h => h) (.inl ⟨rfl, fun w7 hw7 => by go_simp; try with_reducible rfl⟩) hHeld ?_
  try simp only [Act.put, List.setIfInBounds_toArray, List.set_cons_zero, List.set_cons_succ]
  refine take_d (i := 16) (some 34) rfl rfl (by kernel_rfl) (by kernel_rfl) (by kernel_rfl) (fun _ _ _ h => h) (.inl ⟨rfl, fun w7 hw7 => by go_simp; try with_reducible rfl⟩) hHeld ?_
  try simp only [Act.put, List.setIfInBounds_toArray, List.set_cons_zero, List.set_cons_succ]
  refine wpAnyH_ready (rs := [17]) (by kernel_rfl) (by simp) ?_
  refine AllReadyH.cons rfl (fun K hK => ?_) AllReadyH.nil
  refine (if_pos (by rfl)).mpr ?_
  go_simp
  refine (bdFirst _).mono ?_
  rintro e w7 ⟨rfl, hb7⟩
  go_wp2_with fail
  refine hK.out _ _ (bt_next hHeld hb7) (fun hHeld => ?_)
  clear hK K
  try simp only [Act.put, List.setIfInBounds_toArray, List.set_cons_zero, List.set_cons_succ]
  refine wpAnyH_ready (rs := [18]) (by kernel_rfl) (by simp) ?_
  refine AllReadyH.cons rfl (fun K hK => ?_) AllReadyH.nil
  refine (if_pos (by rfl)).mpr ?_
  go_simp
  refine (K5.out _).mono ?_
  rintro e w7 ⟨rfl, hb7⟩
  go_wp2_with fail
  refine hK.out _ _ (bt_next hHeld hb7) (fun hHeld => ?_)
  clear hK K
  try simp only [Act.put, List.setIfInBounds_toArray, List.set_cons_zero, List.set_cons_succ]
  refine take_d (i := 19) (some 37) rfl rfl (by kernel_rfl) (by kernel_rfl) (by kernel_rfl) (fun _ _ _ h => h) (.inl ⟨rfl, fun w7 hw7 => by go_simp; try with_reducible rfl⟩) hHeld ?_
  try simp only [Act.put, List.setIfInBounds_toArray, List.set_cons_zero, List.set_cons_succ]
  refine take_d (i := 20) (some 38) rfl rfl (by kernel_rfl) (by kernel_rfl) (by kernel_rfl) (fun _ _ _ h => h) (.inl ⟨rfl, fun w7 hw7 => by go_simp; try with_reducible rfl⟩) hHeld ?_
  try simp only [Act.put, List.setIfInBounds_toArray, List.set_cons_zero, List.set_cons_succ]
  refine take_d (i := 21) (some 39) rfl rfl (by kernel_rfl) (by kernel_rfl) (by kernel_rfl) (fun _ _ _ h => h) (.inl ⟨rfl, fun w7 hw7 => by go_simp; try with_reducible rfl⟩) hHeld ?_
  try simp only [Act.put, List.setIfInBounds_toArray, List.set_cons_zero, List.set_cons_succ]
  refine wpAnyH_ready (rs := [22]) (by kernel_rfl) (by simp) ?_
  refine AllReadyH.cons rfl (fun K hK => ?_) AllReadyH.nil
  refine (if_pos (by rfl)).mpr ?_
  go_simp
  refine (bdFirst _).mono ?_
  rintro e w7 ⟨rfl, hb7⟩
  go_wp2_with fail
  refine hK.out _ _ (bt_next hHeld hb7) (fun hHeld => ?_)
  clear hK K
  try simp only [Act.put, List.setIfInBounds_toArray, List.set_cons_zero, List.set_cons_succ]
  refine wpAnyH_ready (rs := [23]) (by kernel_rfl) (by simp) ?_
  refine AllReadyH.cons rfl (fun K hK => ?_) AllReadyH.nil
  refine (if_pos (by rfl)).mpr ?_
  go_simp
  refine (KW.out _).mono ?_
  rintro e w7 ⟨v7, rfl, ho7, hb7⟩
  obtain ⟨A7, c7, rfl⟩ := ho7.shape
  rw [FF.out]
  clear ho7
  go_wp2_with fail
  refine hK.out _ _ (bt_next hHeld hb7) (fun hHeld => ?_)
  clear hK K
  try simp only [Act.put, List.setIfInBounds_toArray, List.set_cons_zero, List.set_cons_succ]
  refine take_d (i := 24) (some 42) rfl rfl (by kernel_rfl) (by kernel_rfl) (by kernel_rfl) (fun _ _ _ h => h) (.inl ⟨rfl, fun w7 hw7 => by go_simp; try with_reducible rfl⟩) hHeld ?_
  try simp only [Act.put, List.setIfInBounds_toArray, List.set_cons_zero, List.set_cons_succ]
  refine take_d (i := 25) (some 43) rfl rfl (by kernel_rfl) (by kernel_rfl) (by kernel_rfl) (fun _ _ _ h => h) (.inl ⟨rfl, fun w7 hw7 => by go_simp; try with_reducible rfl⟩) hHeld ?_
  try simp only [Act.put, List.setIfInBounds_toArray, List.set_cons_zero, List.set_cons_succ]
  refine take_d (i := 26) (some 44) rfl rfl (by kernel_rfl) (by kernel_rfl) (by kernel_rfl) (fun _ _ _ h => h) (.inl ⟨rfl, fun w7 hw7 => by go_simp; try with_reducible rfl⟩) hHeld ?_
  try simp only [Act.put, List.setIfInBounds_toArray, List.set_cons_zero, List.set_cons_succ]
  refine take_d (i := 27) (some 2) rfl rfl (by kernel_rfl) (by kernel_rfl) (by kernel_rfl) (fun _ _ _ h => h) (.inl ⟨rfl, fun w7 hw7 => by go_simp; try with_reducible rfl⟩) hHeld ?_
  try simp only [Act.put, List.setIfInBounds_toArray, List.set_cons_zero, List.set_cons_succ]
  refine wpAnyH_done (by kernel_rfl) ?_ _
  refine NoPanic.normal ?_
  go_wp2
  go_ret
  exact ⟨rfl, hHeld.1⟩
theorem walk_BoardTurns (l : List Int) (h8 : B8 l) (w : World) :
    Calls Try.prog 6 #[.agg (bv l)] w fun e w' => e = .returned (.bool true) ∧ Below w.heap.size w w' := by
  cases h : okB l with
  | true => exact turns_t l h8 h w
  | false => exact turns_f l h8 h w
end Go.Proofs.Ytpgdcpkggmkooaa
