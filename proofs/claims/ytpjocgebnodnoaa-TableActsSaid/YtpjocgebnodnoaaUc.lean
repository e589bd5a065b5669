/- Tables: which entry is there. -/
import Derived.Test.YtpjocgebnodnoaaUb
namespace Go.Proofs.Ytpjocgebnodnoaa
open Go.RowKit
set_option linter.unusedVariables false
set_option linter.unusedSimpArgs false
set_option maxRecDepth 100000
theorem key_all {q : Key} (h : q.1.length = 64) : (keyC q).extract 0 (0 + 68) = keyC q := by rw [show 0 + 68 = (keyC q).size by rw [keyC_size h], Array.extract_size]
theorem ent_size0 {q : Key} {x : Int} (h : q.1.length = 64) : 0 + 68 ≤ (entC q x).size := by rw [entC_size h]; omega
theorem find_step {L : Slots} {q : Key} {l : List Nat} {j : Nat} (hj : j < l.length) (hn : ∀ i ∈ l.take j, atB L q i = false) (hf : atB L q (nt l j 0) = false) : ∀ i ∈ l.take (j + 1), atB L q i = false := by
  intro i hi
  rw [List.take_add_one, List.getElem?_eq_getElem hj, List.mem_append] at hi
  rcases hi with hi | hi
  · exact hn i hi
  · have e : nt l j 0 = l[j] := by unfold nt; simp [List.getD, List.getElem?_eq_getElem hj]
    simp at hi; rw [hi, ← e]; exact hf
theorem find_hit {L : Slots} {q : Key} {l : List Nat} {j : Nat} (hj : j < l.length) (hn : ∀ i ∈ l.take j, atB L q i = false) (hf : atB L q (nt l j 0) = true) : l.find? (atB L q) = some (nt l j 0) := by
  have e : nt l j 0 = l[j] := by unfold nt; simp [List.getD, List.getElem?_eq_getElem hj]
  rw [e] at hf ⊢
  conv => lhs; rw [← List.take_append_drop j l]
  rw [List.find?_append, List.find?_eq_none.2 (fun x hx => by rw [hn x hx]; simp), Option.none_or, List.drop_eq_getElem_cons hj, List.find?_cons, hf]
theorem find_none {L : Slots} {q : Key} {l : List Nat} {j : Nat} (hj : l.length ≤ j) (hn : ∀ i ∈ l.take j, atB L q i = false) : l.find? (atB L q) = none := by
  rw [List.take_of_length_le hj] at hn
  exact List.find?_eq_none.2 (fun x hx => by rw [hn x hx]; simp)
theorem nt_map {l : List Nat} {j : Nat} (hj : j < l.length) : nt (l.map Int.ofNat) j 0 = ((nt l j 0 : Nat) : Int) := by unfold nt; simp [List.getD, List.getElem?_eq_getElem hj]
theorem nt_in {l : List Nat} {j : Nat} (hj : j < l.length) : nt l j 0 ∈ l := by unfold nt; rw [List.getD_eq_getElem?_getD, List.getElem?_eq_getElem hj]; exact List.getElem_mem _
theorem ex_satA {P : Program} {w : World} {o : Oper} {ev : Operand → Value} {t e : TypeId} (a n c : Nat) (i : Int) (k : Nat) (hk : i = (k : Int)) (h1 : k < n) (hu : P.underlying t = some (.slice e)) (hz : ScT P e) (x y : Operand) (ho : o.op = .indexAddr t x y) (hx : ev x = .slice (some ⟨a, 0, none⟩) n c) (hy : ev y = .int .i64 i) :
    (execOp ev o).run P w = .ok (.value (.pointer (some ⟨a, k, none⟩))) w := by
  subst hk
  have := ex_sat (P := P) (w := w) (o := o) (ev := ev) (t := t) (e := e) n c (k : Int) ⟨a, 0, none⟩ _ rfl (Int.natCast_nonneg k) (by omega) hu hz x y ho hx hy
  rw [this, Int.toNat_natCast, add_off, Nat.zero_add]
/-- what find tells. -/
def Found (L : Slots) (q : Key) (ps : Array Value) (p : Value) : Prop := (findZ_ L q = none ∧ p = .pointer none) ∨ ∃ i b, findZ_ L q = some i ∧ i < L.length ∧ p = .pointer (some ⟨b, 0, none⟩) ∧ ps[i]? = some p
set_option maxHeartbeats 40000000 in
theorem find_calls {w : World} {F : Nat → Prop} {L : Slots} {g a : Nat} {ps : Array Value} (h : TBx w F L g a ps) (q : Key) (hq : GoodKey q) :
    Calls Try.prog 56 #[.pointer (some ⟨g, 0, none⟩), .agg (keyC q)] w fun e w' => ∃ p, e = .returned p ∧ Found L q ps p ∧ Below w.heap.size w w' := by
 have HL := hid (Below.refl w.heap.size w)
 have TB := hid h
 have HQ := hid hq.1
 have HGK := hid hq
 have HP := hid h.pos
 have HB := hid h.bd
 obtain ⟨l, hl_⟩ : ∃ l, rowZ L.length q = l := ⟨_, rfl⟩
 have HLR := hid hl_
 have HLn : Hid (l.length ≤ 4) := hid (by rw [← hl_, rowZ_len]; omega)
 have HIN : Hid (∀ j, j < l.length → nt l j 0 < L.length) := hid (fun j hj => rowZ_lt h.pos q _ (by rw [hl_]; exact nt_in hj))
 clear h hq hl_
 go_enter Try.func56, Try.ntmps56
 have k1 := True.intro
 have k2 := True.intro
 go_wp2_with (first
  | ((with_reducible refine gate_d (N := 3) rfl ?_); clear k1; obtain ⟨gq, hgq⟩ : ∃ g_, w.heap.size = g_ := ⟨_, rfl⟩; refine ag_box (keyC q) gq hgq rfl _ rfl rfl ?_; intro w1 hb_ hB_ hs_; have HL1 := hid (HL.out.trans (hb_.mono (by rw [← hgq]; exact HL.out.size))); have TB1 := hid (TB.out.below (by rw [hgq]; exact hb_)); have BKq := hid hB_; clear hb_ hB_ hs_ hgq HL TB)
  | ((with_reducible refine gate_d (N := 9) rfl ?_); refine ag_fix (.agg (keyC q)) (ex_load t_aT98 gq 0 (keyC q) (keyC q) BKq.out (by rw [keyC_size HQ.out]; omega) (key_all HQ.out) _ rfl rfl) rfl ?_)
  | (go_at_call 97; clear k2; refine (row_calls TB1.out q HGK.out).mono ?_; rintro e_ w2 ⟨u, rfl, so_, hb_⟩; have HL2 := hid (HL1.out.trans (hb_.mono HL1.out.size)); have TB2 := hid (TB1.out.below hb_); have BKq2 := hid (BKq.out.below hb_ BKq.out.lt); have SO2 : Hid (Own w2 0 3 u ((l.map Int.ofNat).map (Value.int .i64))) := hid (by have h_ := so_; unfold rowV at h_; rw [HLR.out] at h_; exact h_.mono (Nat.zero_le _)); clear so_ hb_ HL1 TB1 BKq)
  | ((with_reducible refine gate_d (N := 11) rfl ?_); obtain ⟨A_, c_, hv_⟩ := SO2.out.sl.shape; rw [List.length_map, List.length_map] at hv_; refine ag_fix (.int .i64 (l.length : Int)) (ex_len t_us27 _ _ _ _ hv_ _ rfl rfl) rfl ?_; clear hv_))
 (try simp only [Act.put, sI, sZ, sS])
 go_loopg [12] 5 (fun kq v12 w' => ∃ (x12 : Int) (j : Nat), v12 = .int .i64 x12 ∧ Hid (x12 = (j : Int)) ∧ Hid (kq + j = 5) ∧ Hid (j ≤ l.length) ∧ Hid (∀ i ∈ l.take j, atB L q i = false) ∧ Hid (Own w' 0 3 u ((l.map Int.ofNat).map (Value.int .i64))) ∧ Hid (Blk w' gq 98 (keyC q)) ∧ Hid (TBx w' F L g a ps) ∧ Hid (Below w.heap.size w w'))
 case atStart => exact ⟨0, 0, (by first | rfl | (simp; done)), hid rfl, hid (by omega), hid (by omega), hid (fun i hi => (by simp at hi)), SO2, BKq2, TB2, HL2⟩
 case round =>
  clear TB2 HL2 SO2 BKq2
  obtain ⟨x12, j, rfl, HJ, HK2, HJM, HNO, SO, BKq, TB, HL⟩ := hrel
  obtain ⟨K1, rfl⟩ : ∃ K_, gk = K_ + 1 := ⟨gk - 1, by have := HK2.out; have := HJM.out; have := HLn.out; omega⟩
  by_cases c : x12 < (l.length : Int)
  ·
   have cb : decide (x12 < (l.length : Int)) = true := decide_eq_true c
   have HC := hid c
   clear c
   have HJ0 : Hid (0 ≤ x12) := hid (by have := HJ.out; omega)
   have HJL : Hid (j < l.length) := hid (by have := HJ.out; have := HC.out; omega)
   obtain ⟨at_, hat_⟩ : ∃ z, nt l j 0 = z := ⟨_, rfl⟩
   have HAT := hid hat_
   have HAL : Hid (at_ < L.length) := hid (by rw [← hat_]; exact HIN.out j HJL.out)
   have HNT : Hid (nt (l.map Int.ofNat) x12.toNat 0 = (at_ : Int)) := hid (by rw [← hat_, show x12.toNat = j by have := HJ.out; omega]; exact nt_map HJL.out)
   clear hat_
   obtain ⟨ad, c0, hv_, hc_⟩ := Sl.get (l := l.map Int.ofNat) (f := Value.int .i64) SO.out.sl 0 (i := x12) HJ0.out (by rw [List.length_map]; exact HC.out)
   rw [HNT.out] at hc_
   rw [List.length_map] at hv_
   have HV := hid hv_
   have HCE := hid hc_
   clear hv_ hc_
   cases hs_ : nt L at_ none with
   | none =>
    have HPS := hid (TB.out.none_ at_ HAL.out hs_)
    have HAB : Hid (atB L q (nt l j 0) = false) := hid (by rw [HAT.out]; unfold atB; rw [hs_])
    clear hs_
    go_wp2_with (first
     | ((with_reducible refine gate_d (N := 14) rfl ?_); refine ag_fix (.pointer (some (ad.add x12.toNat))) (ex_sat _ _ x12 _ _ HV.out HJ0.out HC.out t_us27 t_sT3 _ _ rfl rfl rfl) rfl ?_)
     | ((with_reducible refine gate_d (N := 15) rfl ?_); refine ag_fix (.int .i64 (at_ : Int)) (ex_scell t_sT3 _ _ HCE.out _ rfl rfl) rfl ?_)
     | ((with_reducible refine gate_d (N := 18) rfl ?_); refine ag_fix (.pointer (some ⟨g, 0, none⟩)) (ex_field 96 0 (.pointer (some ⟨g, 0, none⟩)) (.pointer (some ⟨g, 0, none⟩)) (t_fa96_0 g) _ rfl rfl) rfl ?_)
     | ((with_reducible refine gate_d (N := 19) rfl ?_); refine ag_fix (.slice (some ⟨a, 0, none⟩) L.length L.length) (ex_get t_sT94 g 0 (.slice (some ⟨a, 0, none⟩) L.length L.length) #[.slice (some ⟨a, 0, none⟩) L.length L.length] TB.out.tab rfl _ rfl rfl) rfl ?_)
     | ((with_reducible refine gate_d (N := 21) rfl ?_); refine ag_fix (.pointer (some ⟨a, at_, none⟩)) (ex_satA a _ _ (at_ : Int) at_ rfl HAL.out t_us94 t_sT99 _ _ rfl rfl rfl) rfl ?_)
     | ((with_reducible refine gate_d (N := 22) rfl ?_); refine ag_fix (.pointer none) (ex_get t_sT99 a at_ (.pointer none) ps TB.out.row HPS.out _ rfl rfl) rfl ?_))
    (try simp only [Act.put, sI, sZ, sS])
    have WR64 := i64_w
    refine sq_region (fun w'_ => Blk w'_ gq 98 (keyC q)) [] [(0, 2), (1, 2), (2, 2), (3, 2), (4, 2), (5, 2), (6, 2), (7, 2), (8, 2), (9, 2)] (by kernel_rfl) (by kernel_rfl) (by kernel_rfl) rfl ?_
    intro w3 hb_
    have HL3 := hid (HL.out.trans (hb_.mono HL.out.size))
    have TB3 := hid (TB.out.below hb_)
    have BKq3 := hid (BKq.out.below hb_ BKq.out.lt)
    have SO3 := hid (SO.out.below hb_)
    clear hb_ HL TB BKq SO HCE
    refine sq_pure (.pointer none) rfl (fun w'_ => ex_mv (.tmp 7) (.inl rfl) _ rfl) rfl rfl ?_
    intro ts_ ht_; simp only [sI, sZ, sS] at ht_; subst ht_
    refine sq_pure (.bool false) rfl (fun w'_ => by go_simp) rfl rfl ?_
    intro ts_ ht_; simp only [sI, sZ, sS] at ht_; subst ht_
    refine sq_pure (.bool false) rfl (fun w'_ => ex_mv (.tmp 24) (.inl rfl) _ rfl) rfl rfl ?_
    intro ts_ ht_; simp only [sI, sZ, sS] at ht_; subst ht_
    refine sq_not 2 false rfl rfl rfl rfl ?_
    intro ts_ ht_; simp only [sI, sZ, sS] at ht_; subst ht_
    refine sq_not 2 false rfl rfl rfl rfl ?_
    intro ts_ ht_; simp only [sI, sZ, sS] at ht_; subst ht_
    refine sq_not 2 false rfl rfl rfl rfl ?_
    intro ts_ ht_; simp only [sI, sZ, sS] at ht_; subst ht_
    refine sq_not 2 false rfl rfl rfl rfl ?_
    intro ts_ ht_; simp only [sI, sZ, sS] at ht_; subst ht_
    refine sq_not 2 false rfl rfl rfl rfl ?_
    intro ts_ ht_; simp only [sI, sZ, sS] at ht_; subst ht_
    refine sq_not 2 false rfl rfl rfl rfl ?_
    intro ts_ ht_; simp only [sI, sZ, sS] at ht_; subst ht_
    refine sq_pure (.bool false) rfl (fun w'_ => by go_simp) rfl rfl ?_
    intro ts_ ht_; simp only [sI, sZ, sS] at ht_; subst ht_
    refine sq_end ?_
    clear WR64
    go_wp2_with fail
    go_roundg K1
    case measure => omega
    case rel => exact ⟨_, j + 1, rfl, hid (by have := HJ.out; have := HJM.out; have := HLn.out; rw [k64 (by omega) (by omega)]; omega), hid (by have := HK2.out; omega), hid (by have := HJL.out; omega), hid (find_step HJL.out HNO.out HAB.out), SO3, BKq3, TB3, HL3⟩
   | some z =>
    obtain ⟨q', x'⟩ := z
    obtain ⟨b, hp_, hb_, hf_, hq_⟩ := TB.out.some_ at_ q' x' HAL.out hs_
    have HPS := hid hp_
    have BKb := hid hb_
    have HQ' := hid hq_
    have HAB : Hid (atB L q (nt l j 0) = decide (q' = q)) := hid (by rw [HAT.out]; unfold atB; rw [hs_])
    clear hs_ hp_ hb_ hf_ hq_
    by_cases e_ : q' = q
    ·
     have HE := hid e_
     clear e_
     go_wp2_with (first
      | ((with_reducible refine gate_d (N := 14) rfl ?_); refine ag_fix (.pointer (some (ad.add x12.toNat))) (ex_sat _ _ x12 _ _ HV.out HJ0.out HC.out t_us27 t_sT3 _ _ rfl rfl rfl) rfl ?_)
      | ((with_reducible refine gate_d (N := 15) rfl ?_); refine ag_fix (.int .i64 (at_ : Int)) (ex_scell t_sT3 _ _ HCE.out _ rfl rfl) rfl ?_)
      | ((with_reducible refine gate_d (N := 18) rfl ?_); refine ag_fix (.pointer (some ⟨g, 0, none⟩)) (ex_field 96 0 (.pointer (some ⟨g, 0, none⟩)) (.pointer (some ⟨g, 0, none⟩)) (t_fa96_0 g) _ rfl rfl) rfl ?_)
      | ((with_reducible refine gate_d (N := 19) rfl ?_); refine ag_fix (.slice (some ⟨a, 0, none⟩) L.length L.length) (ex_get t_sT94 g 0 (.slice (some ⟨a, 0, none⟩) L.length L.length) #[.slice (some ⟨a, 0, none⟩) L.length L.length] TB.out.tab rfl _ rfl rfl) rfl ?_)
      | ((with_reducible refine gate_d (N := 21) rfl ?_); refine ag_fix (.pointer (some ⟨a, at_, none⟩)) (ex_satA a _ _ (at_ : Int) at_ rfl HAL.out t_us94 t_sT99 _ _ rfl rfl rfl) rfl ?_)
      | ((with_reducible refine gate_d (N := 22) rfl ?_); refine ag_fix (.pointer (some ⟨b, 0, none⟩)) (ex_get t_sT99 a at_ (.pointer (some ⟨b, 0, none⟩)) ps TB.out.row HPS.out _ rfl rfl) rfl ?_))
     (try simp only [Act.put, sI, sZ, sS])
     have WR64 := i64_w
     refine sq_region (fun w'_ => Blk w'_ gq 98 (keyC q) ∧ Blk w'_ b 102 (entC q' x')) [] [(0, 2), (1, 2), (2, 2), (3, 2), (4, 2), (5, 2), (6, 1), (7, 1), (8, 2), (9, 2)] (by kernel_rfl) (by kernel_rfl) (by kernel_rfl) rfl ?_
     intro w3 hb_
     have HL3 := hid (HL.out.trans (hb_.mono HL.out.size))
     have TB3 := hid (TB.out.below hb_)
     have BKq3 := hid (BKq.out.below hb_ BKq.out.lt)
     have SO3 := hid (SO.out.below hb_)
     have BKb3 := hid (BKb.out.below hb_ BKb.out.lt)
     clear hb_ HL TB BKq SO HCE BKb
     refine sq_pure (.pointer (some ⟨b, 0, none⟩)) rfl (fun w'_ => ex_mv (.tmp 7) (.inl rfl) _ rfl) rfl rfl ?_
     intro ts_ ht_; simp only [sI, sZ, sS] at ht_; subst ht_
     refine sq_pure (.bool true) rfl (fun w'_ => by go_simp) rfl rfl ?_
     intro ts_ ht_; simp only [sI, sZ, sS] at ht_; subst ht_
     refine sq_pure (.bool true) rfl (fun w'_ => ex_mv (.tmp 24) (.inl rfl) _ rfl) rfl rfl ?_
     intro ts_ ht_; simp only [sI, sZ, sS] at ht_; subst ht_
     refine sq_pure (.pointer (some ⟨b, 0, none⟩)) rfl (fun w'_ => ex_mv (.tmp 7) (.inl rfl) _ rfl) rfl rfl ?_
     intro ts_ ht_; simp only [sI, sZ, sS] at ht_; subst ht_
     refine sq_pure (.pointer (some ⟨b, 0, none⟩)) rfl (fun w'_ => by go_simp) rfl rfl ?_
     intro ts_ ht_; simp only [sI, sZ, sS] at ht_; subst ht_
     refine sq_pure (.pointer (some ⟨b, 0, none⟩)) rfl (fun w'_ => ex_field 102 0 (.pointer (some ⟨b, 0, none⟩)) (.pointer (some ⟨b, 0, none⟩)) (t_fa102_0 b) _ rfl rfl) rfl rfl ?_
     intro ts_ ht_; simp only [sI, sZ, sS] at ht_; subst ht_
     refine sq_take (.agg (keyC q')) ⟨BKq3.out, BKb3.out⟩ rfl (fun w'_ hS_ => ex_load t_aT98 b 0 (entC q' x') (keyC q') hS_.2 (ent_size0 HQ'.out) (ent_key HQ'.out) _ rfl rfl) rfl rfl ?_
     intro ts_ ht_; simp only [sI, sZ, sS] at ht_; subst ht_
     refine sq_take (.agg (keyC q)) ⟨BKq3.out, BKb3.out⟩ rfl (fun w'_ hS_ => ex_load t_aT98 gq 0 (keyC q) (keyC q) hS_.1 (by rw [keyC_size HQ.out]; omega) (key_all HQ.out) _ rfl rfl) rfl rfl ?_
     intro ts_ ht_; simp only [sI, sZ, sS] at ht_; subst ht_
     refine sq_pure (.bool true) rfl (fun w'_ => ex_eq .eql 98 (.agg (keyC q')) (.agg (keyC q)) (.bool true) (fun x_ y_ w_ => guard_any (by kernel_rfl) _ x_ y_ w_) (fun w_ => (eql_name q' q HQ'.out HQ.out w_).trans (by rw [decide_eq_true HE.out])) _ _ _ rfl rfl rfl) rfl rfl ?_
     intro ts_ ht_; simp only [sI, sZ, sS] at ht_; subst ht_
     refine sq_pure (.bool true) rfl (fun w'_ => by go_simp) rfl rfl ?_
     intro ts_ ht_; simp only [sI, sZ, sS] at ht_; subst ht_
     refine sq_end ?_
     clear WR64
     go_wp2_with fail
     go_ret
     exact ⟨_, rfl, .inr ⟨at_, b, by unfold findZ_; rw [HLR.out, ← HAT.out]; exact find_hit HJL.out HNO.out (by rw [HAB.out, decide_eq_true HE.out]), HAL.out, rfl, HPS.out⟩, HL3.out⟩
    ·
     have HE := hid e_
     clear e_
     go_wp2_with (first
      | ((with_reducible refine gate_d (N := 14) rfl ?_); refine ag_fix (.pointer (some (ad.add x12.toNat))) (ex_sat _ _ x12 _ _ HV.out HJ0.out HC.out t_us27 t_sT3 _ _ rfl rfl rfl) rfl ?_)
      | ((with_reducible refine gate_d (N := 15) rfl ?_); refine ag_fix (.int .i64 (at_ : Int)) (ex_scell t_sT3 _ _ HCE.out _ rfl rfl) rfl ?_)
      | ((with_reducible refine gate_d (N := 18) rfl ?_); refine ag_fix (.pointer (some ⟨g, 0, none⟩)) (ex_field 96 0 (.pointer (some ⟨g, 0, none⟩)) (.pointer (some ⟨g, 0, none⟩)) (t_fa96_0 g) _ rfl rfl) rfl ?_)
      | ((with_reducible refine gate_d (N := 19) rfl ?_); refine ag_fix (.slice (some ⟨a, 0, none⟩) L.length L.length) (ex_get t_sT94 g 0 (.slice (some ⟨a, 0, none⟩) L.length L.length) #[.slice (some ⟨a, 0, none⟩) L.length L.length] TB.out.tab rfl _ rfl rfl) rfl ?_)
      | ((with_reducible refine gate_d (N := 21) rfl ?_); refine ag_fix (.pointer (some ⟨a, at_, none⟩)) (ex_satA a _ _ (at_ : Int) at_ rfl HAL.out t_us94 t_sT99 _ _ rfl rfl rfl) rfl ?_)
      | ((with_reducible refine gate_d (N := 22) rfl ?_); refine ag_fix (.pointer (some ⟨b, 0, none⟩)) (ex_get t_sT99 a at_ (.pointer (some ⟨b, 0, none⟩)) ps TB.out.row HPS.out _ rfl rfl) rfl ?_))
     (try simp only [Act.put, sI, sZ, sS])
     have WR64 := i64_w
     refine sq_region (fun w'_ => Blk w'_ gq 98 (keyC q) ∧ Blk w'_ b 102 (entC q' x')) [] [(0, 2), (1, 2), (2, 2), (3, 2), (4, 2), (5, 2), (6, 1), (7, 1), (8, 2), (9, 2)] (by kernel_rfl) (by kernel_rfl) (by kernel_rfl) rfl ?_
     intro w3 hb_
     have HL3 := hid (HL.out.trans (hb_.mono HL.out.size))
     have TB3 := hid (TB.out.below hb_)
     have BKq3 := hid (BKq.out.below hb_ BKq.out.lt)
     have SO3 := hid (SO.out.below hb_)
     have BKb3 := hid (BKb.out.below hb_ BKb.out.lt)
     clear hb_ HL TB BKq SO HCE BKb
     refine sq_pure (.pointer (some ⟨b, 0, none⟩)) rfl (fun w'_ => ex_mv (.tmp 7) (.inl rfl) _ rfl) rfl rfl ?_
     intro ts_ ht_; simp only [sI, sZ, sS] at ht_; subst ht_
     refine sq_pure (.bool true) rfl (fun w'_ => by go_simp) rfl rfl ?_
     intro ts_ ht_; simp only [sI, sZ, sS] at ht_; subst ht_
     refine sq_pure (.bool true) rfl (fun w'_ => ex_mv (.tmp 24) (.inl rfl) _ rfl) rfl rfl ?_
     intro ts_ ht_; simp only [sI, sZ, sS] at ht_; subst ht_
     refine sq_pure (.pointer (some ⟨b, 0, none⟩)) rfl (fun w'_ => ex_mv (.tmp 7) (.inl rfl) _ rfl) rfl rfl ?_
     intro ts_ ht_; simp only [sI, sZ, sS] at ht_; subst ht_
     refine sq_pure (.pointer (some ⟨b, 0, none⟩)) rfl (fun w'_ => by go_simp) rfl rfl ?_
     intro ts_ ht_; simp only [sI, sZ, sS] at ht_; subst ht_
     refine sq_pure (.pointer (some ⟨b, 0, none⟩)) rfl (fun w'_ => ex_field 102 0 (.pointer (some ⟨b, 0, none⟩)) (.pointer (some ⟨b, 0, none⟩)) (t_fa102_0 b) _ rfl rfl) rfl rfl ?_
     intro ts_ ht_; simp only [sI, sZ, sS] at ht_; subst ht_
     refine sq_take (.agg (keyC q')) ⟨BKq3.out, BKb3.out⟩ rfl (fun w'_ hS_ => ex_load t_aT98 b 0 (entC q' x') (keyC q') hS_.2 (ent_size0 HQ'.out) (ent_key HQ'.out) _ rfl rfl) rfl rfl ?_
     intro ts_ ht_; simp only [sI, sZ, sS] at ht_; subst ht_
     refine sq_take (.agg (keyC q)) ⟨BKq3.out, BKb3.out⟩ rfl (fun w'_ hS_ => ex_load t_aT98 gq 0 (keyC q) (keyC q) hS_.1 (by rw [keyC_size HQ.out]; omega) (key_all HQ.out) _ rfl rfl) rfl rfl ?_
     intro ts_ ht_; simp only [sI, sZ, sS] at ht_; subst ht_
     refine sq_pure (.bool false) rfl (fun w'_ => ex_eq .eql 98 (.agg (keyC q')) (.agg (keyC q)) (.bool false) (fun x_ y_ w_ => guard_any (by kernel_rfl) _ x_ y_ w_) (fun w_ => (eql_name q' q HQ'.out HQ.out w_).trans (by rw [decide_eq_false HE.out])) _ _ _ rfl rfl rfl) rfl rfl ?_
     intro ts_ ht_; simp only [sI, sZ, sS] at ht_; subst ht_
     refine sq_pure (.bool false) rfl (fun w'_ => by go_simp) rfl rfl ?_
     intro ts_ ht_; simp only [sI, sZ, sS] at ht_; subst ht_
     refine sq_end ?_
     clear WR64
     go_wp2_with fail
     go_roundg K1
     case measure => omega
     case rel => exact ⟨_, j + 1, rfl, hid (by have := HJ.out; have := HJM.out; have := HLn.out; rw [k64 (by omega) (by omega)]; omega), hid (by have := HK2.out; omega), hid (by have := HJL.out; omega), hid (find_step HJL.out HNO.out (by rw [HAB.out, decide_eq_false HE.out])), SO3, BKq3, TB3, HL3⟩
  ·
   have cb : decide (x12 < (l.length : Int)) = false := decide_eq_false c
   have HC := hid c
   clear c
   go_wp2_with fail
   go_ret
   exact ⟨_, rfl, .inl ⟨by unfold findZ_; rw [HLR.out]; exact find_none (by have := HJ.out; have := HC.out; omega) HNO.out, rfl⟩, HL.out⟩
end Go.Proofs.Ytpjocgebnodnoaa
