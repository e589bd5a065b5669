/- Tables: the places on which an entry may stand; which entry is there. -/
import Derived.Test.YtpjocgebnodnoaaUa
namespace Go.Proofs.Ytpjocgebnodnoaa
open Go.RowKit
set_option linter.unusedVariables false
set_option linter.unusedSimpArgs false
set_option maxRecDepth 100000
theorem ex_rem {P : Program} {w : World} {o : Oper} {ev : Operand → Value} {k : IntKind} {t t2 : TypeId} (a b : Int) (h0 : 0 ≤ a) (hb : 0 < b) (x y : Operand) (ho : o.op = .binOp .rem t x y t2) (hx : ev x = .int k a) (hy : ev y = .int k b) : (execOp ev o).run P w = .ok (.value (.int k (a % b))) w := by
  unfold execOp
  have : b ≠ 0 := by omega
  simp [ho, hx, hy, go_sem, Op.intDiv, this, Int.tmod_eq_emod_of_nonneg h0]
theorem u64_w (n : Int) : IntKind.u64.wrap n = n % 18446744073709551616 := by simp [IntKind.wrap, IntKind.signed, IntKind.bits]
theorem t_fa98_0 (g : Nat) (w : World) : (Instr.fieldAt 98 (.pointer (some ⟨g, 0, none⟩)) 0).run Try.prog w = .ok (.pointer (some ⟨g, 0, none⟩)) w := by kernel_rfl
theorem t_fa98_1 (g : Nat) (w : World) : (Instr.fieldAt 98 (.pointer (some ⟨g, 0, none⟩)) 1).run Try.prog w = .ok (.pointer (some ⟨g, 67, none⟩)) w := by kernel_rfl
theorem t_fa96_0 (g : Nat) (w : World) : (Instr.fieldAt 96 (.pointer (some ⟨g, 0, none⟩)) 0).run Try.prog w = .ok (.pointer (some ⟨g, 0, none⟩)) w := by kernel_rfl
theorem t_fa102_0 (g : Nat) (w : World) : (Instr.fieldAt 102 (.pointer (some ⟨g, 0, none⟩)) 0).run Try.prog w = .ok (.pointer (some ⟨g, 0, none⟩)) w := by kernel_rfl
theorem t_fa102_1 (g : Nat) (w : World) : (Instr.fieldAt 102 (.pointer (some ⟨g, 0, none⟩)) 1).run Try.prog w = .ok (.pointer (some ⟨g, 68, none⟩)) w := by kernel_rfl
theorem t_eT27_info : (Try.prog.info? 3).map (fun i => (i.zero, i.size, i.bytes)) = some (some (.int .i64 0), 1, 8) := by kernel_rfl
theorem t_eT27 : ElemT Try.prog 27 3 8 := ⟨by kernel_rfl, by
  obtain ⟨i, h1, h2, h3, h4⟩ := info_parts t_eT27_info
  exact ⟨i, _, h1, h2, h3, h4, rfl⟩⟩
/-- a position's key is told. -/
def GoodKey (q : Key) : Prop := q.1.length = 64 ∧ i_key_Of.f 200 q.1 q.2.1 q.2.2.1 q.2.2.2.1 = some (keyZ q)
theorem key_depth {q : Key} (h : q.1.length = 64) : (keyC q)[67]? = some (.int .i64 q.2.2.2.2) := (xv_cell (n := 64) h 3 67 rfl).trans rfl
theorem home_int {n : Nat} (h : 0 < n) (q : Key) : ((homeZ n q : Nat) : Int) = IntKind.u64.wrap (keyZ q + IntKind.u64.wrap q.2.2.2.2) % (n : Int) := by
  unfold homeZ
  have h2 := Int.emod_nonneg (IntKind.u64.wrap (keyZ q + IntKind.u64.wrap q.2.2.2.2)) (show (n : Int) ≠ 0 by omega)
  omega
theorem TBx.types3 {w w' : World} {F : Nat → Prop} {L : Slots} {g a : Nat} {ps : Array Value} (h : TBx w F L g a ps) (hk : ∀ g' t' cs, t' ≠ 3 → Blk w g' t' cs → Blk w' g' t' cs) (hs : w.heap.size ≤ w'.heap.size) : TBx w' F L g a ps :=
  { h with tab := hk _ _ _ (by decide) h.tab, row := hk _ _ _ (by decide) h.row, lt := fun k hf => Nat.lt_of_lt_of_le (h.lt k hf) hs, some_ := fun i q x hi hn => by obtain ⟨b, h1, h2, h3, h4⟩ := h.some_ i q x hi hn; exact ⟨b, h1, hk _ _ _ (by decide) h2, h3, h4⟩ }
def rowV (n : Nat) (q : Key) : List Int := (rowZ n q).map Int.ofNat
theorem row_suc {n : Nat} (q : Key) {j : Nat} (hj : j < min 4 n) : (rowV n q).take (j + 1) = (rowV n q).take j ++ [(((homeZ n q + j) % n : Nat) : Int)] := by
  have hl : j < (rowV n q).length := by unfold rowV; rw [List.length_map, rowZ_len]; exact hj
  rw [List.take_add_one, List.getElem?_eq_getElem hl]
  congr 1
  unfold rowV rowZ
  simp
set_option maxHeartbeats 40000000 in
theorem row_calls {w : World} {F : Nat → Prop} {L : Slots} {g a : Nat} {ps : Array Value} (h : TBx w F L g a ps) (q : Key) (hq : GoodKey q) :
    Calls Try.prog 97 #[.pointer (some ⟨g, 0, none⟩), .agg (keyC q)] w fun e w' => ∃ u, e = .returned u ∧ Own w' w.heap.size 3 u ((rowV L.length q).map (Value.int .i64)) ∧ Below w.heap.size w w' := by
 have HL := hid (Below.refl w.heap.size w)
 have TB := hid h
 have HQ := hid hq.1
 have HK := hid hq.2
 have HP := hid h.pos
 have HB := hid h.bd
 obtain ⟨n, hn_⟩ : ∃ n, L.length = n := ⟨_, rfl⟩
 have HN := hid hn_
 obtain ⟨hz, hz_⟩ : ∃ z, homeZ L.length q = z := ⟨_, rfl⟩
 have HZ := hid hz_
 have HZL : Hid (hz < L.length) := hid (by rw [← hz_]; exact homeZ_lt h.pos q)
 clear h hq hn_ hz_
 go_enter Try.func97, Try.ntmps97
 have k1 := True.intro
 go_wp2_with (first
  | ((with_reducible refine gate_d (N := 3) rfl ?_); clear k1; obtain ⟨gq, hgq⟩ : ∃ g_, w.heap.size = g_ := ⟨_, rfl⟩; refine ag_box (keyC q) gq hgq rfl _ rfl rfl ?_; intro w1 hb_ hB_ hs_; have HL1 := hid (HL.out.trans (hb_.mono (by rw [← hgq]; exact HL.out.size))); have TB1 := hid (TB.out.below (by rw [hgq]; exact hb_)); have BKq := hid hB_; clear hb_ hB_ hs_ hgq HL TB))
 (try simp only [Act.put, sI, sZ, sS])
 have WR64 := i64_w
 refine sq_region (fun w'_ => Blk w'_ gq 98 (keyC q) ∧ Blk w'_ g 96 #[.slice (some ⟨a, 0, none⟩) L.length L.length]) [] [(0, 2), (1, 1), (3, 2), (4, 1), (5, 2), (7, 2), (8, 2), (9, 2), (10, 1), (11, 2), (12, 2), (2, 0), (6, 2), (13, 2), (14, 2)] (by kernel_rfl) (by kernel_rfl) (by kernel_rfl) rfl ?_
 intro w2 hb_
 have HL2 := hid (HL1.out.trans (hb_.mono HL1.out.size))
 have TB2 := hid (TB1.out.below hb_)
 have BKq2 := hid (BKq.out.below hb_ BKq.out.lt)
 clear hb_ HL1 TB1 BKq
 refine sq_pure (.pointer (some ⟨gq, 0, none⟩)) rfl (fun w'_ => ex_field 98 0 (.pointer (some ⟨gq, 0, none⟩)) (.pointer (some ⟨gq, 0, none⟩)) (t_fa98_0 gq) _ rfl rfl) rfl rfl ?_
 intro ts_ ht_; simp only [sI, sZ, sS] at ht_; subst ht_
 refine sq_take (.agg (pv q.1 q.2.1 q.2.2.1 q.2.2.2.1)) ⟨BKq2.out, TB2.out.tab⟩ rfl (fun w'_ hS_ => ex_load posT gq 0 (keyC q) (pv q.1 q.2.1 q.2.2.1 q.2.2.2.1) hS_.1 (by rw [keyC_size HQ.out]; omega) (key_pos HQ.out) _ rfl rfl) rfl rfl ?_
 intro ts_ ht_; simp only [sI, sZ, sS] at ht_; subst ht_
 refine sq_pure (.pointer (some ⟨gq, 67, none⟩)) rfl (fun w'_ => ex_field 98 1 (.pointer (some ⟨gq, 0, none⟩)) (.pointer (some ⟨gq, 67, none⟩)) (t_fa98_1 gq) _ rfl rfl) rfl rfl ?_
 intro ts_ ht_; simp only [sI, sZ, sS] at ht_; subst ht_
 refine sq_take (.int .i64 q.2.2.2.2) ⟨BKq2.out, TB2.out.tab⟩ rfl (fun w'_ hS_ => ex_get t_sT3 gq 67 (.int .i64 q.2.2.2.2) (keyC q) hS_.1 (key_depth HQ.out) _ rfl rfl) rfl rfl ?_
 intro ts_ ht_; simp only [sI, sZ, sS] at ht_; subst ht_
 refine sq_pure (.int .u64 (IntKind.u64.wrap q.2.2.2.2)) rfl (fun w'_ => by go_simp) rfl rfl ?_
 intro ts_ ht_; simp only [sI, sZ, sS] at ht_; subst ht_
 refine sq_pure (.pointer (some ⟨g, 0, none⟩)) rfl (fun w'_ => ex_mv (.tmp 0) (.inl rfl) _ rfl) rfl rfl ?_
 intro ts_ ht_; simp only [sI, sZ, sS] at ht_; subst ht_
 refine sq_pure (.pointer (some ⟨g, 0, none⟩)) rfl (fun w'_ => by go_simp) rfl rfl ?_
 intro ts_ ht_; simp only [sI, sZ, sS] at ht_; subst ht_
 refine sq_pure (.pointer (some ⟨g, 0, none⟩)) rfl (fun w'_ => ex_field 96 0 (.pointer (some ⟨g, 0, none⟩)) (.pointer (some ⟨g, 0, none⟩)) (t_fa96_0 g) _ rfl rfl) rfl rfl ?_
 intro ts_ ht_; simp only [sI, sZ, sS] at ht_; subst ht_
 refine sq_take (.slice (some ⟨a, 0, none⟩) L.length L.length) ⟨BKq2.out, TB2.out.tab⟩ rfl (fun w'_ hS_ => ex_get t_sT94 g 0 (.slice (some ⟨a, 0, none⟩) L.length L.length) #[.slice (some ⟨a, 0, none⟩) L.length L.length] hS_.2 rfl _ rfl rfl) rfl rfl ?_
 intro ts_ ht_; simp only [sI, sZ, sS] at ht_; subst ht_
 refine sq_pure (.int .i64 (L.length : Int)) rfl (fun w'_ => ex_len t_us94 _ _ _ _ rfl _ rfl rfl) rfl rfl ?_
 intro ts_ ht_; simp only [sI, sZ, sS] at ht_; subst ht_
 refine sq_pure (.int .u64 (L.length : Int)) rfl (fun w'_ => (show _ from by go_simp; rw [u64_w]; have h1_ := HB.out; omega)) rfl rfl ?_
 intro ts_ ht_; simp only [sI, sZ, sS] at ht_; subst ht_
 refine sq_act rfl (fun Q'_ hQ_ => ?_)
 refine wl_call 113 #[.agg (pv q.1 q.2.1 q.2.2.1 q.2.2.2.1)] (by go_simp) rfl ((i_key_Of.calls 200 q.1 q.2.1 q.2.2.1 q.2.2.2.1 HQ.out (keyZ q) _ HK.out).mono ?_)
 rintro e_ w3 ⟨rfl, hb_⟩
 have HL3 := hid (HL2.out.trans (hb_.mono HL2.out.size))
 have TB3 := hid (TB2.out.below hb_)
 have BKq3 := hid (BKq2.out.below hb_ BKq2.out.lt)
 clear hb_ HL2 TB2 BKq2
 refine ⟨_, rfl, ?_⟩
 refine hQ_ _ _ (fun _ => ⟨BKq3.out, TB3.out.tab⟩) ?_
 clear hQ_ Q'_
 simp only [Act.put, sI, sZ, sS]
 refine sq_pure (.int .u64 (IntKind.u64.wrap (keyZ q + IntKind.u64.wrap q.2.2.2.2))) rfl (fun w'_ => by go_simp) rfl rfl ?_
 intro ts_ ht_; simp only [sI, sZ, sS] at ht_; subst ht_
 refine sq_pure (.int .u64 (hz : Int)) rfl (fun w'_ => (ex_rem (IntKind.u64.wrap (keyZ q + IntKind.u64.wrap q.2.2.2.2)) (L.length : Int) (by rw [u64_w]; omega) (by have h1_ := HP.out; omega) _ _ rfl rfl rfl).trans (by rw [show IntKind.u64.wrap (keyZ q + IntKind.u64.wrap q.2.2.2.2) % (L.length : Int) = (hz : Int) by rw [← HZ.out]; exact (home_int HP.out q).symm])) rfl rfl ?_
 intro ts_ ht_; simp only [sI, sZ, sS] at ht_; subst ht_
 refine sq_pure (.int .u64 (hz : Int)) rfl (fun w'_ => ex_mv (.tmp 21) (.inr rfl) _ rfl) rfl rfl ?_
 intro ts_ ht_; simp only [sI, sZ, sS] at ht_; subst ht_
 refine sq_end ?_
 clear WR64 BKq3
 obtain ⟨M, hM_⟩ : ∃ M : Nat, min 4 L.length = M := ⟨_, rfl⟩
 have m1_ : min (4 : Int) (L.length : Int) = (M : Int) := by omega
 have m2_ : (if (L.length : Int) < 4 then (L.length : Int) else 4) = (M : Int) := by split <;> omega
 have HM4 : Hid (M ≤ 4) := hid (by omega)
 have HMN : Hid (M = min 4 L.length) := hid hM_.symm
 clear hM_
 go_wp2_with (first
  | ((with_reducible refine gate_d (N := 24) rfl ?_); refine ag_fix (.pointer (some ⟨g, 0, none⟩)) (ex_field 96 0 (.pointer (some ⟨g, 0, none⟩)) (.pointer (some ⟨g, 0, none⟩)) (t_fa96_0 g) _ rfl rfl) rfl ?_)
  | ((with_reducible refine gate_d (N := 25) rfl ?_); refine ag_fix (.slice (some ⟨a, 0, none⟩) L.length L.length) (ex_get t_sT94 g 0 (.slice (some ⟨a, 0, none⟩) L.length L.length) #[.slice (some ⟨a, 0, none⟩) L.length L.length] TB3.out.tab rfl _ rfl rfl) rfl ?_)
  | ((with_reducible refine gate_d (N := 26) rfl ?_); refine ag_fix (.int .i64 (L.length : Int)) (ex_len t_us94 _ _ _ _ rfl _ rfl rfl) rfl ?_))
 (try simp only [Act.put, sI, sZ, sS])
 clear m1_ m2_
 go_loopg [6, 28] 5 (fun kq v6 v28 w' => ∃ (x28 : Int) (j : Nat), v28 = .int .i64 x28 ∧ Hid (x28 = (j : Int)) ∧ Hid (kq + j = 5) ∧ Hid (j ≤ M) ∧ Hid (Own w' w.heap.size 3 v6 (((rowV L.length q).take j).map (Value.int .i64))) ∧ Hid (TBx w' F L g a ps) ∧ Hid (Below w.heap.size w w'))
 case atStart => exact ⟨0, 0, (by first | rfl | (simp; done)), hid rfl, hid (by omega), hid (by omega), hid (Own.nil _ _ _), TB3, HL3⟩
 case round =>
  clear TB3 HL3
  obtain ⟨x28, j, rfl, HJ, HK2, HJM, SO, TB, HL⟩ := hrel
  obtain ⟨K1, rfl⟩ : ∃ K_, gk = K_ + 1 := ⟨gk - 1, by have := HK2.out; have := HJM.out; have := HM4.out; omega⟩
  by_cases c : x28 < (M : Int)
  ·
   have cb : decide (x28 < (M : Int)) = true := decide_eq_true c
   have HC := hid c
   clear c
   obtain ⟨at_, hat_⟩ : ∃ z, (hz + j) % L.length = z := ⟨_, rfl⟩
   have HAT := hid hat_
   clear hat_
   have ROW : Hid ((rowV L.length q).take (j + 1) = (rowV L.length q).take j ++ [(at_ : Int)]) := hid (by rw [← HAT.out, ← HZ.out]; exact row_suc q (by have := HC.out; have := HJ.out; have := HMN.out; omega))
   have S1 : Hid (wrap64 ((hz : Int)) = (hz : Int)) := hid (k64 (by omega) (by have := HZL.out; have := HB.out; omega))
   have S2 : Hid (wrap64 ((hz : Int) + x28) = ((hz + j : Nat) : Int)) := hid (by have := HJ.out; have := HZL.out; have := HB.out; have := HJM.out; have := HM4.out; rw [k64 (by omega) (by omega)]; omega)
   have k2 := True.intro
   have k3 := True.intro
   go_wp2_with (first
    | ((with_reducible refine gate_d (N := 33) rfl ?_); refine ag_fix (.int .i64 (hz : Int)) (show _ from by go_simp; rw [i64_w, S1.out]) rfl ?_)
    | ((with_reducible refine gate_d (N := 35) rfl ?_); refine ag_fix (.int .i64 ((hz + j : Nat) : Int)) (show _ from by go_simp; first | (rw [i64_w, S2.out]; done) | (rw [S2.out]; done) | (rw [i64_w, S2.out]; omega) | (rw [S2.out]; omega)) rfl ?_)
    | ((with_reducible refine gate_d (N := 38) rfl ?_); refine ag_fix (.pointer (some ⟨g, 0, none⟩)) (ex_field 96 0 (.pointer (some ⟨g, 0, none⟩)) (.pointer (some ⟨g, 0, none⟩)) (t_fa96_0 g) _ rfl rfl) rfl ?_)
    | ((with_reducible refine gate_d (N := 39) rfl ?_); refine ag_fix (.slice (some ⟨a, 0, none⟩) L.length L.length) (ex_get t_sT94 g 0 (.slice (some ⟨a, 0, none⟩) L.length L.length) #[.slice (some ⟨a, 0, none⟩) L.length L.length] TB.out.tab rfl _ rfl rfl) rfl ?_)
    | ((with_reducible refine gate_d (N := 40) rfl ?_); refine ag_fix (.int .i64 (L.length : Int)) (ex_len t_us94 _ _ _ _ rfl _ rfl rfl) rfl ?_)
    | ((with_reducible refine gate_d (N := 41) rfl ?_); refine ag_fix (.int .i64 (at_ : Int)) ((ex_rem ((hz + j : Nat) : Int) (L.length : Int) (Int.natCast_nonneg _) (by have h1_ := HP.out; omega) _ _ rfl rfl rfl).trans (by rw [show ((hz + j : Nat) : Int) % (L.length : Int) = (at_ : Int) by rw [← HAT.out]; rfl])) rfl ?_)
    | ((with_reducible refine gate_d (N := 42) rfl ?_); clear k2; obtain ⟨gl, hgl⟩ : ∃ g_, wr.heap.size = g_ := ⟨_, rfl⟩; refine ag_lit t_sT3 (.int .i64 (at_ : Int)) gl hgl rfl _ rfl rfl (fun w_ => by kernel_rfl) ?_; intro w5 hb_ hB_ hs_; have HL5 := hid (HL.out.trans (hb_.mono (by rw [← hgl]; exact HL.out.size))); have TB5 := hid (TB.out.below (by rw [hgl]; exact hb_)); have SO5 := hid (SO.out.below (by rw [hgl]; exact hb_)); have BKl := hid hB_; clear hb_ hB_ hs_ hgl HL TB SO)
    | ((with_reducible refine gate_d (N := 43) rfl ?_); clear k3; refine app_one t_eT27 w.heap.size _ (((rowV L.length q).take j).map (Value.int .i64)) (.int .i64 (at_ : Int)) gl 1 SO5.out BKl.out rfl (by have h_ := HJM.out; have h2_ := HM4.out; rw [List.length_map, List.length_take]; omega) (by have h_ := HJM.out; have h2_ := HM4.out; rw [List.length_map, List.length_take]; unfold maxLen; omega) HL5.out.size rfl _ _ rfl rfl rfl ?_; intro u6 w6 ho_ hb_ hk_ hi_; have SO6 : Hid (Own w6 w.heap.size 3 u6 (((rowV L.length q).take (j + 1)).map (Value.int .i64))) := hid (by rw [ROW.out, List.map_append]; exact ho_); have HL6 := hid (HL5.out.trans hb_); have TB6 := hid (TB5.out.types3 hk_ hb_.size); clear ho_ hb_ hk_ hi_ SO5 BKl HL5 TB5))
   (try simp only [Act.put, sI, sZ, sS])
   go_roundg K1
   case measure => omega
   case rel => exact ⟨_, j + 1, rfl, hid (by have := HJ.out; have := HJM.out; have := HM4.out; rw [k64 (by omega) (by omega)]; omega), hid (by have := HK2.out; omega), hid (by have := HJ.out; have := HC.out; omega), SO6, TB6, HL6⟩
  ·
   have cb : decide (x28 < (M : Int)) = false := decide_eq_false c
   have HC := hid c
   clear c
   have SOe := hid (show Own wr w.heap.size 3 _ ((rowV L.length q).map (Value.int .i64)) from by have h_ := SO.out; rw [List.take_of_length_le (by have := HJ.out; have := HC.out; have := HMN.out; unfold rowV; rw [List.length_map, rowZ_len]; omega)] at h_; exact h_)
   go_wp2_with fail
   go_ret
   exact ⟨_, rfl, SOe.out, HL.out⟩
end Go.Proofs.Ytpjocgebnodnoaa
