/- TableTrue: the walk. -/
import Derived.Test.YtpjocgebnodnoaaUj
import Derived.Test.YtpjocgebnodnoaaUh
namespace Go.Proofs.Ytpjocgebnodnoaa
open Go.RowKit
set_option linter.unusedVariables false
set_option linter.unusedSimpArgs false
set_option maxRecDepth 100000
abbrev OM (w : World) (b n : Nat) (D : DT) : Prop := w.ownsMap Try.prog 53 (plainElem Try.prog 3) b n D
theorem om_go {w w' : World} {b n : Nat} {D : DT} (h : OM w b n D) (hb : w'.heap[b]? = w.heap[b]?) : OM w' b n D := by
  obtain ⟨es, clock, h1, h2⟩ := h
  exact ⟨es, clock, hb.trans h1, h2⟩
/-- a table and a map, in blocks that are new since w0. -/
structure TM (w0 w : World) (F : Nat → Prop) (L : Slots) (g a bm : Nat) (n : Nat) (D : DT) : Prop where
  t : ∃ ps, TBx w F L g a ps
  m : OM w bm n D
  b1 : ∀ k, F k → w0.heap.size ≤ k
  bb : w0.heap.size ≤ bm
  nf : ¬ F bm
  below : Below w0.heap.size w0 w
section
variable {w0 w w' : World} {F : Nat → Prop} {L : Slots} {g a bm n : Nat} {D : DT}
theorem TM.lt (h : TM w0 w F L g a bm n D) : ∀ k, F k → k < w.heap.size := by obtain ⟨ps, h1⟩ := h.t; exact h1.lt
theorem TM.mlt (h : TM w0 w F L g a bm n D) : bm < w.heap.size := World.ownsMap.lt h.m
theorem TM.go (h : TM w0 w F L g a bm n D) (hb : Below w.heap.size w w') : TM w0 w' F L g a bm n D :=
  ⟨by obtain ⟨ps, h1⟩ := h.t; exact ⟨ps, h1.below hb⟩, om_go h.m (hb.block bm h.mlt), h.b1, h.bb, h.nf, h.below.trans (hb.mono h.below.size)⟩
theorem TM.put (h : TM w0 w F L g a bm n D) (q : Key) (hq : GoodKey q) (y : Int) :
    Calls Try.prog 24 #[.pointer (some ⟨g, 0, none⟩), .agg (pv q.1 q.2.1 q.2.2.1 q.2.2.2.1), .int .i64 q.2.2.2.2, .int .i64 y] w fun e w' => ∃ v F', e = .returned v ∧ TM w0 w' F' (putZ L q y) g a bm n D ∧ Fr F w w' ∧ (∀ k, F' k → F k ∨ w.heap.size ≤ k) := by
  obtain ⟨ps, h1⟩ := h.t
  refine (put_calls h1 q hq y).mono ?_
  rintro e w' ⟨v, rfl, F', ps', t', hF', fr⟩
  refine ⟨v, F', rfl, ⟨⟨ps', t'⟩, om_go h.m (fr.block bm h.mlt h.nf), fun k hk => ?_, h.bb, fun hk => ?_, h.below.trans (fr.below h.b1 h.below.size)⟩, fr, hF'⟩
  · rcases hF' k hk with h3 | h3
    · exact h.b1 k h3
    · exact Nat.le_trans h.below.size h3
  · rcases hF' bm hk with h3 | h3
    · exact h.nf h3
    · have := h.mlt; omega
theorem TM.get (h : TM w0 w F L g a bm n D) (q : Key) (hq : GoodKey q) :
    Calls Try.prog 28 #[.pointer (some ⟨g, 0, none⟩), .agg (pv q.1 q.2.1 q.2.2.1 q.2.2.2.1), .int .i64 q.2.2.2.2] w fun e w' => e = .returned (.tuple #[.int .i64 ((getZ L q).getD 0), .bool (getZ L q).isSome]) ∧ TM w0 w' F L g a bm n D ∧ Below w.heap.size w w' := by
  obtain ⟨ps, h1⟩ := h.t
  exact (get_calls h1 q hq).mono fun e w' hh => ⟨hh.1, h.go hh.2, hh.2⟩
theorem TM.len (h : TM w0 w F L g a bm n D) : Calls Try.prog 27 #[.pointer (some ⟨g, 0, none⟩)] w fun e w' => e = .returned (.int .i64 (lenZ L : Int)) ∧ w = w' := by
  obtain ⟨ps, h1⟩ := h.t; exact len_calls h1
theorem TM.places (h : TM w0 w F L g a bm n D) : Calls Try.prog 29 #[.pointer (some ⟨g, 0, none⟩)] w fun e w' => e = .returned (.int .i64 (L.length : Int)) ∧ w = w' := by
  obtain ⟨ps, h1⟩ := h.t; exact places_calls h1
theorem TM.upd (h : TM w0 w F L g a bm n D) {n' : Nat} {D' : DT} (hm : OM w' bm n' D') (hg : w.grownBy w' (some bm)) : TM w0 w' F L g a bm n' D' := by
  obtain ⟨ps, h1⟩ := h.t
  refine ⟨⟨ps, h1.keep hg.size fun k hk => hg.block k (h1.lt k hk) (fun e => h.nf (by injection e with e; rw [← e]; exact hk))⟩, hm, h.b1, h.bb, h.nf, h.below.grown hg h.below.size (fun k hk => by injection hk with hk; rw [← hk]; exact h.bb)⟩
end
theorem TM.mk0 {w0 w1 : World} {g a : Nat} {N : Nat} {ps : Array Value} (h1 : TBx w1 (fun k => k = g ∨ k = a) (emptyZ N) g a ps) (hg : w0.heap.size ≤ g) (ha : w0.heap.size ≤ a) (hb : Below w0.heap.size w0 w1) :
    TM w0 (w1.alloc (.map #[] 0)) (fun k => k = g ∨ k = a) (emptyZ N) g a w1.heap.size 0 (.map []) := by
  have l1 := h1.lt g (.inl rfl)
  have l2 := h1.lt a (.inr rfl)
  have hb2 : Below w1.heap.size w1 (w1.alloc (.map #[] 0)) := (Below.refl _ _).alloc (Nat.le_refl _) _
  exact ⟨⟨ps, h1.below hb2⟩, World.ownsMap_made w1 _ _ _, fun k hk => by rcases hk with rfl | rfl <;> assumption, hb.size, fun hk => by rcases hk with e | e <;> omega, hb.trans (hb2.mono hb.size)⟩
theorem nt_in40 {l : List ActT} {j : Nat} (hj : j < l.length) : nt l j z40 ∈ l := by unfold nt; rw [List.getD_eq_getElem?_getD, List.getElem?_eq_getElem hj]; exact List.getElem_mem _
theorem t_u52 : Try.prog.underlying 52 = some (.map 53 3) := by kernel_rfl
theorem ex_mlen {w : World} {o : Oper} {ev : Operand → Value} {b n : Nat} {D : DT} (h : OM w b n D) (x : Operand) (ho : o.op = .call { callee := .builtin .len, args := #[x], argTypes := #[52] }) (hx : ev x = .map (some b)) : (execOp ev o).run Try.prog w = .ok (.value (.int .i64 ((Maps.size D : Nat) : Int))) w := by
  simp [execOp, ho, resolve, invoke, builtin, hx, World.ownsMap.len h t_u52 o.type, Result.andThen]
theorem zero3 (w : World) : (zeroValue 3).run Try.prog w = .ok (.int .i64 0) w := by kernel_rfl
set_option maxHeartbeats 40000000 in
theorem walk_TableTrue (a0 : Int) (v1 : Value) (l : List ActT) (w : World) (hs1 : SlN w 4 v1 l.length (l.flatMap en40)) (hwf : ∀ x ∈ l, wfA x) :
    Calls Try.prog 7 #[.int .i64 a0, v1] w fun e w' => e = .returned (.bool true) ∧ Below w.heap.size w w' := by
 have HL := hid (Below.refl w.heap.size w)
 have HS1 := hid hs1
 have HWF := hid hwf
 obtain ⟨A1, c1, hv1_⟩ := hs1.shape
 have HV1 := hid hv1_
 clear hs1 hv1_ hwf
 by_cases k1 : (l.length : Int) > 200
 · have cb1 : decide ((l.length : Int) > 200) = true := decide_eq_true k1
   have cb1' : decide ((200 : Int) < (l.length : Int)) = true := decide_eq_true k1
   clear k1
   go_enter Try.func7, Try.ntmps7
   have t1 := True.intro
   have t2 := True.intro
   have t3 := True.intro
   go_wp2_with (first
    | (go_at_call 22; clear t1; refine (wakes_calls _).mono ?_; rintro e_ w1 ⟨rfl, hb_⟩; have HL1 := hid (HL.out.trans (hb_.mono HL.out.size)); clear hb_ HL)
    | ((with_reducible refine gate_d (N := 19) rfl ?_); refine ag_fix (.int .i64 (l.length : Int)) (ex_lenN t_us36 A1 _ c1 _ HV1.out _ rfl rfl) rfl ?_))
   (try simp only [Act.put, sI, sZ, sS])
   go_ret
   exact ⟨by first | rfl | (simp; done), HL1.out⟩
 · have cb1 : decide ((l.length : Int) > 200) = false := decide_eq_false k1
   have cb1' : decide ((200 : Int) < (l.length : Int)) = false := decide_eq_false k1
   have HL1n := hid k1
   clear k1
   go_enter Try.func7, Try.ntmps7
   have t1 := True.intro
   have t2 := True.intro
   have t3 := True.intro
   go_wp2_with (first
    | (go_at_call 22; clear t1; refine (wakes_calls _).mono ?_; rintro e_ w1 ⟨rfl, hb_⟩; have HL1 := hid (HL.out.trans (hb_.mono HL.out.size)); clear hb_ HL)
    | ((with_reducible refine gate_d (N := 19) rfl ?_); refine ag_fix (.int .i64 (l.length : Int)) (ex_lenN t_us36 A1 _ c1 _ HV1.out _ rfl rfl) rfl ?_)
    | ((with_reducible refine gate_d (N := 25) rfl ?_); refine ag_fix (.int .i64 (l.length : Int)) (ex_lenN t_us36 A1 _ c1 _ HV1.out _ rfl rfl) rfl ?_)
    | (go_at_call 23; clear t2; refine (new_calls _ a0).mono ?_; rintro e_ w2 ⟨g, a, ps, rfl, tb_, hg_, ha_, _, hb_⟩; have TBa := hid tb_; have HG1 := hid (Nat.le_trans HL1.out.size hg_); have HA1 := hid (Nat.le_trans HL1.out.size ha_); have HL2 := hid (HL1.out.trans (hb_.mono HL1.out.size)); clear tb_ hg_ ha_ hb_ HL1)
    | ((with_reducible refine gate_d (N := 23) rfl ?_); clear t3; refine ag_fixw (.map (some w2.heap.size)) (w2.alloc (.map #[] 0)) (by unfold execOp; rfl) rfl ?_; have TW : Hid (TM w (w2.alloc (.map #[] 0)) _ (emptyZ (placesZ a0)) g a w2.heap.size 0 (.map [])) := hid (TM.mk0 TBa.out HG1.out HA1.out HL2.out); obtain ⟨w3, hw3_⟩ : ∃ z, w2.alloc (.map #[] 0) = z := ⟨_, rfl⟩; rw [hw3_] at TW; rw [hw3_]; obtain ⟨bm, hbm_⟩ : ∃ z, w2.heap.size = z := ⟨_, rfl⟩; rw [hbm_] at TW; rw [hbm_]; clear hw3_ hbm_ TBa HG1 HA1 HL2))
   (try simp only [Act.put, sI, sZ, sS])
   have TW0 : Hid (∃ F L Ks f D, L.length = placesZ a0 ∧ Good L ∧ Lk L Ks f ∧ Mp D Ks f ∧ TM w w3 F L g a bm 0 D) := hid ⟨_, _, [], fun _ => 0, _, emptyZ_len _, good_empty _, lk_empty _, mp_empty, TW.out⟩
   have HPL : Hid (0 < placesZ a0) := hid (by unfold placesZ; omega)
   clear TW
   go_loopg [26] (l.length + 1) (fun kq v26 w' => ∃ (x26 : Int) (j : Nat), v26 = .int .i64 x26 ∧ Hid (x26 = (j : Int)) ∧ Hid (kq + j = l.length + 1) ∧ Hid (j ≤ l.length) ∧ Hid (∃ F L Ks f D, L.length = placesZ a0 ∧ Good L ∧ Lk L Ks f ∧ Mp D Ks f ∧ TM w w' F L g a bm j D))
   case atStart => exact ⟨0, 0, (by first | rfl | (simp; done)), hid rfl, hid (by omega), hid (by omega), TW0⟩
   case round =>
    clear TW0
    obtain ⟨x26, j, rfl, HJ, HK2, HJM, HTW⟩ := hrel
    obtain ⟨F, L, Ks, f, D, hl_, hg_, hk_, hm_, tw_⟩ := HTW.out
    have HLL := hid hl_
    have HGO := hid hg_
    have HLK := hid hk_
    have HMP := hid hm_
    have TW := hid tw_
    have HL0 : Hid (0 < L.length) := hid (by rw [hl_]; exact HPL.out)
    clear hl_ hg_ hk_ hm_ tw_ HTW
    obtain ⟨K1, rfl⟩ : ∃ K_, gk = K_ + 1 := ⟨gk - 1, by have := HK2.out; have := HJM.out; omega⟩
    by_cases c : x26 < (l.length : Int)
    ·
     have cb : decide (x26 < (l.length : Int)) = true := decide_eq_true c
     have HC := hid c
     clear c
     have HJ0 : Hid (0 ≤ x26) := hid (by have := HJ.out; omega)
     obtain ⟨x, hx_⟩ : ∃ z, nt l x26.toNat z40 = z := ⟨_, rfl⟩
     obtain ⟨ad, c0, hv_, hc_⟩ := SlN.get en40_len (HS1.out.below TW.out.below) z40 HJ0.out HC.out
     rw [hx_] at hc_
     have HVA := hid hv_
     have HCE := hid hc_
     have HWX : Hid (wfA x) := hid (by rw [← hx_]; exact HWF.out _ (nt_in40 (by have := HJ0.out; have := HC.out; omega)))
     clear hv_ hc_ hx_
     obtain ⟨m, hm0_, hm1_⟩ := and2047 x.2.1
     have HM0 := hid hm0_
     have HM1 := hid hm1_
     have HOK : Hid (okK (m, x.2.2.1)) := hid ⟨hm0_, HWX.out.1⟩
     clear hm0_ hm1_
     have t4 := True.intro
     go_wp2_with (first
      | ((with_reducible refine gate_d (N := 28) rfl ?_); refine ag_fix (.pointer (some (ad.add (x26.toNat * 4)))) (ex_satN _ _ x26 _ _ HVA.out HJ0.out HC.out t_us36 t_aT40.size _ _ rfl rfl rfl) rfl ?_)
      | ((with_reducible refine gate_d (N := 29) rfl ?_); refine ag_fix (.agg (en40 x).toArray) (ex_ldN t_aT40 _ _ (en40_len x) HCE.out _ rfl rfl) rfl ?_)
      | ((with_reducible refine gate_d (N := 8) rfl ?_); clear t4; obtain ⟨ga, hga⟩ : ∃ g_, wr.heap.size = g_ := ⟨_, rfl⟩; refine ag_alst t_aT40 (en40 x).toArray ga hga rfl (by intro u_ hu_; exact en_one [x] u_ (by simpa using hu_)) rfl rfl 8 rfl _ _ rfl (fun _ => rfl) (fun _ => rfl) rfl ?_; intro w4 hb_ hB_ hs_; have NF1 : Hid (¬ F ga) := hid (fun h_ => by have := TW.out.lt ga h_; omega); have NBM : Hid (ga ≠ bm) := hid (fun h_ => by have := TW.out.mlt; omega); have TW4 := hid (TW.out.go (by rw [hga]; exact hb_)); have BK4 := hid hB_; clear hb_ hB_ hs_ hga TW HCE)
      | ((with_reducible refine gate_d (N := 30) rfl ?_); refine ag_fix (.pointer (some ⟨ga, 1, none⟩)) (ex_field 40 1 (.pointer (some ⟨ga, 0, none⟩)) (.pointer (some ⟨ga, 1, none⟩)) (t_fa40_1 ga) _ rfl rfl) rfl ?_)
      | ((with_reducible refine gate_d (N := 31) rfl ?_); refine ag_fix (.int .i64 x.2.1) (ex_get t_sT3 ga 1 (.int .i64 x.2.1) (en40 x).toArray BK4.out rfl _ rfl rfl) rfl ?_)
      | ((with_reducible refine gate_d (N := 32) rfl ?_); refine ag_fix (.int .i64 (m : Int)) (show _ from by go_simp; rw [HM1.out]) rfl ?_))
     (try simp only [Act.put, sI, sZ, sS])
     obtain ⟨og, hog_⟩ : ∃ z, getZ L (atK (m : Int) x.2.2.1) = z := ⟨_, rfl⟩
     have HOG := hid hog_
     clear hog_
     cases og with
     | none =>
      have WR64 := i64_w
      refine sq_region (fun w'_ => Blk w'_ ga 40 (en40 x).toArray) [] [(0, 2), (1, 2), (3, 2), (4, 1), (2, 0), (5, 0), (6, 2), (7, 2), (8, 2), (9, 2), (10, 2)] (by kernel_rfl) (by kernel_rfl) (by kernel_rfl) rfl ?_
      intro w5 hb_
      have TW5 := hid (TW4.out.go hb_)
      have BK5 := hid (BK4.out.below hb_ BK4.out.lt)
      clear hb_ TW4 BK4
      refine sq_pure (.pointer (some ⟨g, 0, none⟩)) rfl (fun w'_ => by go_simp) rfl rfl ?_
      intro ts_ ht_; simp only [sI, sZ, sS] at ht_; subst ht_
      refine sq_pure (.int .i64 (m : Int)) rfl (fun w'_ => by go_simp) rfl rfl ?_
      intro ts_ ht_; simp only [sI, sZ, sS] at ht_; subst ht_
      refine sq_pure (.pointer (some ⟨ga, 2, none⟩)) rfl (fun w'_ => ex_field 40 2 (.pointer (some ⟨ga, 0, none⟩)) (.pointer (some ⟨ga, 2, none⟩)) (t_fa40_2 ga) _ rfl rfl) rfl rfl ?_
      intro ts_ ht_; simp only [sI, sZ, sS] at ht_; subst ht_
      refine sq_take (.int .i64 x.2.2.1) BK5.out rfl (fun w'_ hS_ => ex_get t_sT3 ga 2 (.int .i64 x.2.2.1) (en40 x).toArray hS_ rfl _ rfl rfl) rfl rfl ?_
      intro ts_ ht_; simp only [sI, sZ, sS] at ht_; subst ht_
      refine sq_act rfl (fun Q'_ hQ_ => ?_)
      refine wl_call 25 #[.int .i64 (m : Int)] (by go_simp) rfl ((at_calls (m : Int) x.2.2.1 _).mono ?_)
      rintro e_ w6 ⟨rfl, hb_⟩
      have TW6 := hid (TW5.out.go hb_)
      have BK6 := hid (BK5.out.below hb_ BK5.out.lt)
      clear hb_ TW5 BK5
      refine ⟨_, rfl, ?_⟩
      refine hQ_ _ _ (fun _ => BK6.out) ?_
      clear hQ_ Q'_
      simp only [Act.put, sI, sZ, sS]
      refine sq_act rfl (fun Q'_ hQ_ => ?_)
      refine wl_call 28 #[.pointer (some ⟨g, 0, none⟩), .agg (pv (atK (m : Int) x.2.2.1).1 (atK (m : Int) x.2.2.1).2.1 (atK (m : Int) x.2.2.1).2.2.1 (atK (m : Int) x.2.2.1).2.2.2.1), .int .i64 x.2.2.1] (by go_simp) rfl ((TW6.out.get (atK (m : Int) x.2.2.1) (atK_good _ _)).mono ?_)
      rintro e_ w7 ⟨rfl, tw_, hb_⟩
      have TW7 := hid tw_
      have BK7 := hid (BK6.out.below hb_ BK6.out.lt)
      clear tw_ hb_ TW6 BK6
      refine ⟨_, rfl, ?_⟩
      rw [HOG.out]
      simp only [Option.getD_none, Option.isSome_none]
      refine hQ_ _ _ (fun _ => BK7.out) ?_
      clear hQ_ Q'_
      change Sq _ _ _ _ _ _ (Act.put _ (some 39) _) _
      simp only [Act.put, sI, sZ, sS]
      refine sq_pure (.tuple #[.int .i64 0, .bool false]) rfl (fun w'_ => by go_simp) rfl rfl ?_
      intro ts_ ht_; simp only [sI, sZ, sS] at ht_; subst ht_
      refine sq_pure (.int .i64 0) rfl (fun w'_ => by go_simp) rfl rfl ?_
      intro ts_ ht_; simp only [sI, sZ, sS] at ht_; subst ht_
      refine sq_pure (.bool false) rfl (fun w'_ => by go_simp) rfl rfl ?_
      intro ts_ ht_; simp only [sI, sZ, sS] at ht_; subst ht_
      refine sq_pure (.int .i64 0) rfl (fun w'_ => by go_simp) rfl rfl ?_
      intro ts_ ht_; simp only [sI, sZ, sS] at ht_; subst ht_
      refine sq_pure (.bool false) rfl (fun w'_ => by go_simp) rfl rfl ?_
      intro ts_ ht_; simp only [sI, sZ, sS] at ht_; subst ht_
      refine sq_end ?_
      clear WR64
      go_wp2_with fail
      (try simp only [Act.put, sI, sZ, sS])
      have WR64 := i64_w
      refine sq_region (fun w'_ => Blk w'_ ga 40 (en40 x).toArray) [] [(0, 2), (1, 2), (3, 2), (4, 1), (5, 2), (6, 1), (2, 0), (7, 0)] (by kernel_rfl) (by kernel_rfl) (by kernel_rfl) rfl ?_
      intro w8 hb_
      have TW8 := hid (TW7.out.go hb_)
      have BK8 := hid (BK7.out.below hb_ BK7.out.lt)
      clear hb_ TW7 BK7
      refine sq_pure (.pointer (some ⟨g, 0, none⟩)) rfl (fun w'_ => by go_simp) rfl rfl ?_
      intro ts_ ht_; simp only [sI, sZ, sS] at ht_; subst ht_
      refine sq_pure (.int .i64 (m : Int)) rfl (fun w'_ => by go_simp) rfl rfl ?_
      intro ts_ ht_; simp only [sI, sZ, sS] at ht_; subst ht_
      refine sq_pure (.pointer (some ⟨ga, 2, none⟩)) rfl (fun w'_ => ex_field 40 2 (.pointer (some ⟨ga, 0, none⟩)) (.pointer (some ⟨ga, 2, none⟩)) (t_fa40_2 ga) _ rfl rfl) rfl rfl ?_
      intro ts_ ht_; simp only [sI, sZ, sS] at ht_; subst ht_
      refine sq_take (.int .i64 x.2.2.1) BK8.out rfl (fun w'_ hS_ => ex_get t_sT3 ga 2 (.int .i64 x.2.2.1) (en40 x).toArray hS_ rfl _ rfl rfl) rfl rfl ?_
      intro ts_ ht_; simp only [sI, sZ, sS] at ht_; subst ht_
      refine sq_pure (.pointer (some ⟨ga, 3, none⟩)) rfl (fun w'_ => ex_field 40 3 (.pointer (some ⟨ga, 0, none⟩)) (.pointer (some ⟨ga, 3, none⟩)) (t_fa40_3 ga) _ rfl rfl) rfl rfl ?_
      intro ts_ ht_; simp only [sI, sZ, sS] at ht_; subst ht_
      refine sq_take (.int .i64 x.2.2.2) BK8.out rfl (fun w'_ hS_ => ex_get t_sT3 ga 3 (.int .i64 x.2.2.2) (en40 x).toArray hS_ rfl _ rfl rfl) rfl rfl ?_
      intro ts_ ht_; simp only [sI, sZ, sS] at ht_; subst ht_
      refine sq_act rfl (fun Q'_ hQ_ => ?_)
      refine wl_call 25 #[.int .i64 (m : Int)] (by go_simp) rfl ((at_calls (m : Int) x.2.2.1 _).mono ?_)
      rintro e_ w9 ⟨rfl, hb_⟩
      have TW9 := hid (TW8.out.go hb_)
      have BK9 := hid (BK8.out.below hb_ BK8.out.lt)
      clear hb_ TW8 BK8
      refine ⟨_, rfl, ?_⟩
      refine hQ_ _ _ (fun _ => BK9.out) ?_
      clear hQ_ Q'_
      simp only [Act.put, sI, sZ, sS]
      refine sq_act rfl (fun Q'_ hQ_ => ?_)
      refine wl_call 24 #[.pointer (some ⟨g, 0, none⟩), .agg (pv (atK (m : Int) x.2.2.1).1 (atK (m : Int) x.2.2.1).2.1 (atK (m : Int) x.2.2.1).2.2.1 (atK (m : Int) x.2.2.1).2.2.2.1), .int .i64 x.2.2.1, .int .i64 x.2.2.2] (by go_simp) rfl ((TW9.out.put (atK (m : Int) x.2.2.1) (atK_good _ _) x.2.2.2).mono ?_)
      rintro e_ w10 ⟨v_, F10, rfl, tw_, fr_, hf_⟩
      have TW10 := hid tw_
      have BK10 := hid (fr_.blk BK9.out NF1.out)
      clear tw_ fr_ hf_ TW9 BK9
      refine ⟨_, rfl, ?_⟩
      refine hQ_ _ _ (fun _ => BK10.out) ?_
      clear hQ_ Q'_
      change Sq _ _ _ _ _ _ (Act.put _ (some 66) _) _
      simp only [Act.put, sI, sZ, sS]
      refine sq_end ?_
      clear WR64
      have t6 := True.intro
      go_wp2_with (first
       | ((with_reducible refine gate_d (N := 69) rfl ?_); refine ag_fix (.pointer (some ⟨ga, 2, none⟩)) (ex_field 40 2 (.pointer (some ⟨ga, 0, none⟩)) (.pointer (some ⟨ga, 2, none⟩)) (t_fa40_2 ga) _ rfl rfl) rfl ?_)
       | ((with_reducible refine gate_d (N := 70) rfl ?_); refine ag_fix (.int .i64 x.2.2.1) (ex_get t_sT3 ga 2 (.int .i64 x.2.2.1) (en40 x).toArray BK10.out rfl _ rfl rfl) rfl ?_)
       | ((with_reducible refine gate_d (N := 71) rfl ?_); refine ag_fix (.agg #[.int .i64 (m : Int), .int .i64 x.2.2.1]) (ex_build _ _ rfl (fun w_ => by simp only [List.map_toArray, List.map_cons, List.map_nil]; kernel_rfl)) rfl ?_)
       | ((with_reducible refine gate_d (N := 72) rfl ?_); refine ag_fix (.pointer (some ⟨ga, 3, none⟩)) (ex_field 40 3 (.pointer (some ⟨ga, 0, none⟩)) (.pointer (some ⟨ga, 3, none⟩)) (t_fa40_3 ga) _ rfl rfl) rfl ?_)
       | ((with_reducible refine gate_d (N := 73) rfl ?_); refine ag_fix (.int .i64 x.2.2.2) (ex_get t_sT3 ga 3 (.int .i64 x.2.2.2) (en40 x).toArray BK10.out rfl _ rfl rfl) rfl ?_)
       | (at_mapUpdate; clear t6; have hk_ := key53 (k := (m, x.2.2.1)) HM0.out HWX.out.1; have hv_ : plainElem (H := Unit) Try.prog 3 (.int .i64 x.2.2.2) = some (.lit (.int .i64 x.2.2.2), []) := plainElem_int (by kernel_rfl) HWX.out.2; have hn_ : j < maxLen := (by have := HJM.out; have := HL1n.out; unfold maxLen; omega); refine wpList_mapUpdate_own _ rfl _ _ _ 52 rfl 53 3 k53 t_u52 (plainElem (H := Unit) Try.prog 3) bm j D rfl TW10.out.m hn_ (.agg #[.int .i64 (m : Int), .int .i64 x.2.2.1]) (.int .i64 x.2.2.2) (kl53 (m, x.2.2.1)) rfl rfl hk_ (.lit (.int .i64 x.2.2.2)) [] hv_ ?_; clear hk_ hv_ hn_; intro w11 hm_ hg_; have TW11 := hid (TW10.out.upd hm_ hg_); have BK11 : Hid (Blk w11 ga 40 (en40 x).toArray) := hid ((hg_.block ga BK10.out.lt (fun e_ => NBM.out (by injection e_))).trans BK10.out); have HMP2 := hid (mp_put HMP.out HOK.out x.2.2.2 rfl (hm_.tidy k53)); have HGO2 := hid (good_put HGO.out (atK (m : Int) x.2.2.1) x.2.2.2 HL0.out); have HLK2 := hid (lk_put HLK.out HGO.out HMP.out.ok HOK.out x.2.2.2 HL0.out); clear hm_ hg_ TW10 BK10))
      (try simp only [Act.put, sI, sZ, sS])
      have HG2 : Hid (getZ (putZ L (atK (m : Int) x.2.2.1) x.2.2.2) (atK (m : Int) x.2.2.1) = some x.2.2.2) := hid (get_put HGO.out _ _ HL0.out)
      have WR64 := i64_w
      refine sq_region (fun w'_ => Blk w'_ ga 40 (en40 x).toArray) [] [(0, 2), (1, 2), (3, 2), (4, 1), (2, 0), (5, 0), (6, 2), (7, 2), (8, 2), (9, 2), (10, 2)] (by kernel_rfl) (by kernel_rfl) (by kernel_rfl) rfl ?_
      intro w12 hb_
      have TW12 := hid (TW11.out.go hb_)
      have BK12 := hid (BK11.out.below hb_ BK11.out.lt)
      clear hb_ TW11 BK11
      refine sq_pure (.pointer (some ⟨g, 0, none⟩)) rfl (fun w'_ => by go_simp) rfl rfl ?_
      intro ts_ ht_; simp only [sI, sZ, sS] at ht_; subst ht_
      refine sq_pure (.int .i64 (m : Int)) rfl (fun w'_ => by go_simp) rfl rfl ?_
      intro ts_ ht_; simp only [sI, sZ, sS] at ht_; subst ht_
      refine sq_pure (.pointer (some ⟨ga, 2, none⟩)) rfl (fun w'_ => ex_field 40 2 (.pointer (some ⟨ga, 0, none⟩)) (.pointer (some ⟨ga, 2, none⟩)) (t_fa40_2 ga) _ rfl rfl) rfl rfl ?_
      intro ts_ ht_; simp only [sI, sZ, sS] at ht_; subst ht_
      refine sq_take (.int .i64 x.2.2.1) BK12.out rfl (fun w'_ hS_ => ex_get t_sT3 ga 2 (.int .i64 x.2.2.1) (en40 x).toArray hS_ rfl _ rfl rfl) rfl rfl ?_
      intro ts_ ht_; simp only [sI, sZ, sS] at ht_; subst ht_
      refine sq_act rfl (fun Q'_ hQ_ => ?_)
      refine wl_call 25 #[.int .i64 (m : Int)] (by go_simp) rfl ((at_calls (m : Int) x.2.2.1 _).mono ?_)
      rintro e_ w13 ⟨rfl, hb_⟩
      have TW13 := hid (TW12.out.go hb_)
      have BK13 := hid (BK12.out.below hb_ BK12.out.lt)
      clear hb_ TW12 BK12
      refine ⟨_, rfl, ?_⟩
      refine hQ_ _ _ (fun _ => BK13.out) ?_
      clear hQ_ Q'_
      simp only [Act.put, sI, sZ, sS]
      refine sq_act rfl (fun Q'_ hQ_ => ?_)
      refine wl_call 28 #[.pointer (some ⟨g, 0, none⟩), .agg (pv (atK (m : Int) x.2.2.1).1 (atK (m : Int) x.2.2.1).2.1 (atK (m : Int) x.2.2.1).2.2.1 (atK (m : Int) x.2.2.1).2.2.2.1), .int .i64 x.2.2.1] (by go_simp) rfl ((TW13.out.get (atK (m : Int) x.2.2.1) (atK_good _ _)).mono ?_)
      rintro e_ w14 ⟨rfl, tw_, hb_⟩
      have TW14 := hid tw_
      have BK14 := hid (BK13.out.below hb_ BK13.out.lt)
      clear tw_ hb_ TW13 BK13
      refine ⟨_, rfl, ?_⟩
      rw [HG2.out]
      simp only [Option.getD_some, Option.isSome_some]
      refine hQ_ _ _ (fun _ => BK14.out) ?_
      clear hQ_ Q'_
      change Sq _ _ _ _ _ _ (Act.put _ (some 80) _) _
      simp only [Act.put, sI, sZ, sS]
      refine sq_pure (.tuple #[.int .i64 x.2.2.2, .bool true]) rfl (fun w'_ => by go_simp) rfl rfl ?_
      intro ts_ ht_; simp only [sI, sZ, sS] at ht_; subst ht_
      refine sq_pure (.int .i64 x.2.2.2) rfl (fun w'_ => by go_simp) rfl rfl ?_
      intro ts_ ht_; simp only [sI, sZ, sS] at ht_; subst ht_
      refine sq_pure (.bool true) rfl (fun w'_ => by go_simp) rfl rfl ?_
      intro ts_ ht_; simp only [sI, sZ, sS] at ht_; subst ht_
      refine sq_pure (.int .i64 x.2.2.2) rfl (fun w'_ => by go_simp) rfl rfl ?_
      intro ts_ ht_; simp only [sI, sZ, sS] at ht_; subst ht_
      refine sq_pure (.bool true) rfl (fun w'_ => by go_simp) rfl rfl ?_
      intro ts_ ht_; simp only [sI, sZ, sS] at ht_; subst ht_
      refine sq_end ?_
      clear WR64
      go_wp2_with (first
       | ((with_reducible refine gate_d (N := 87) rfl ?_); refine ag_fix (.pointer (some ⟨ga, 3, none⟩)) (ex_field 40 3 (.pointer (some ⟨ga, 0, none⟩)) (.pointer (some ⟨ga, 3, none⟩)) (t_fa40_3 ga) _ rfl rfl) rfl ?_)
       | ((with_reducible refine gate_d (N := 88) rfl ?_); refine ag_fix (.int .i64 x.2.2.2) (ex_get t_sT3 ga 3 (.int .i64 x.2.2.2) (en40 x).toArray BK14.out rfl _ rfl rfl) rfl ?_))
      (try simp only [Act.put, sI, sZ, sS])
      go_roundg K1
      case measure => omega
      case rel => exact ⟨_, j + 1, rfl, hid (by have := HJ.out; have := HC.out; have := HL1n.out; rw [k64 (by omega) (by omega)]; omega), hid (by have := HK2.out; omega), hid (by have := HJ.out; have := HC.out; omega), hid ⟨_, _, _, _, _, (putZ_len _ _ _).trans HLL.out, HGO2.out, HLK2.out, HMP2.out, TW14.out⟩⟩
     | some gv =>
      obtain ⟨hin_, hfv_⟩ := lk_get HLK.out HGO.out HMP.out.ok HOK.out (k := (m, x.2.2.1)) HOG.out
      have HHAS : Hid (Maps.has D (kl53 (m, x.2.2.1)) = true) := hid (by rw [HMP.out.has _ HOK.out]; exact decide_eq_true hin_)
      have HAT : Hid (∀ z, D.atKey (kl53 (m, x.2.2.1)) z = .lit (.int .i64 gv)) := hid (fun z => by rw [HMP.out.at_ _ hin_ z, hfv_])
      clear hin_ hfv_
      have WR64 := i64_w
      refine sq_region (fun w'_ => Blk w'_ ga 40 (en40 x).toArray) [] [(0, 2), (1, 2), (3, 2), (4, 1), (2, 0), (5, 0), (6, 2), (7, 2), (8, 2), (9, 2), (10, 2)] (by kernel_rfl) (by kernel_rfl) (by kernel_rfl) rfl ?_
      intro w5 hb_
      have TW5 := hid (TW4.out.go hb_)
      have BK5 := hid (BK4.out.below hb_ BK4.out.lt)
      clear hb_ TW4 BK4
      refine sq_pure (.pointer (some ⟨g, 0, none⟩)) rfl (fun w'_ => by go_simp) rfl rfl ?_
      intro ts_ ht_; simp only [sI, sZ, sS] at ht_; subst ht_
      refine sq_pure (.int .i64 (m : Int)) rfl (fun w'_ => by go_simp) rfl rfl ?_
      intro ts_ ht_; simp only [sI, sZ, sS] at ht_; subst ht_
      refine sq_pure (.pointer (some ⟨ga, 2, none⟩)) rfl (fun w'_ => ex_field 40 2 (.pointer (some ⟨ga, 0, none⟩)) (.pointer (some ⟨ga, 2, none⟩)) (t_fa40_2 ga) _ rfl rfl) rfl rfl ?_
      intro ts_ ht_; simp only [sI, sZ, sS] at ht_; subst ht_
      refine sq_take (.int .i64 x.2.2.1) BK5.out rfl (fun w'_ hS_ => ex_get t_sT3 ga 2 (.int .i64 x.2.2.1) (en40 x).toArray hS_ rfl _ rfl rfl) rfl rfl ?_
      intro ts_ ht_; simp only [sI, sZ, sS] at ht_; subst ht_
      refine sq_act rfl (fun Q'_ hQ_ => ?_)
      refine wl_call 25 #[.int .i64 (m : Int)] (by go_simp) rfl ((at_calls (m : Int) x.2.2.1 _).mono ?_)
      rintro e_ w6 ⟨rfl, hb_⟩
      have TW6 := hid (TW5.out.go hb_)
      have BK6 := hid (BK5.out.below hb_ BK5.out.lt)
      clear hb_ TW5 BK5
      refine ⟨_, rfl, ?_⟩
      refine hQ_ _ _ (fun _ => BK6.out) ?_
      clear hQ_ Q'_
      simp only [Act.put, sI, sZ, sS]
      refine sq_act rfl (fun Q'_ hQ_ => ?_)
      refine wl_call 28 #[.pointer (some ⟨g, 0, none⟩), .agg (pv (atK (m : Int) x.2.2.1).1 (atK (m : Int) x.2.2.1).2.1 (atK (m : Int) x.2.2.1).2.2.1 (atK (m : Int) x.2.2.1).2.2.2.1), .int .i64 x.2.2.1] (by go_simp) rfl ((TW6.out.get (atK (m : Int) x.2.2.1) (atK_good _ _)).mono ?_)
      rintro e_ w7 ⟨rfl, tw_, hb_⟩
      have TW7 := hid tw_
      have BK7 := hid (BK6.out.below hb_ BK6.out.lt)
      clear tw_ hb_ TW6 BK6
      refine ⟨_, rfl, ?_⟩
      rw [HOG.out]
      simp only [Option.getD_some, Option.isSome_some]
      refine hQ_ _ _ (fun _ => BK7.out) ?_
      clear hQ_ Q'_
      change Sq _ _ _ _ _ _ (Act.put _ (some 39) _) _
      simp only [Act.put, sI, sZ, sS]
      refine sq_pure (.tuple #[.int .i64 gv, .bool true]) rfl (fun w'_ => by go_simp) rfl rfl ?_
      intro ts_ ht_; simp only [sI, sZ, sS] at ht_; subst ht_
      refine sq_pure (.int .i64 gv) rfl (fun w'_ => by go_simp) rfl rfl ?_
      intro ts_ ht_; simp only [sI, sZ, sS] at ht_; subst ht_
      refine sq_pure (.bool true) rfl (fun w'_ => by go_simp) rfl rfl ?_
      intro ts_ ht_; simp only [sI, sZ, sS] at ht_; subst ht_
      refine sq_pure (.int .i64 gv) rfl (fun w'_ => by go_simp) rfl rfl ?_
      intro ts_ ht_; simp only [sI, sZ, sS] at ht_; subst ht_
      refine sq_pure (.bool true) rfl (fun w'_ => by go_simp) rfl rfl ?_
      intro ts_ ht_; simp only [sI, sZ, sS] at ht_; subst ht_
      refine sq_end ?_
      clear WR64
      have t5 := True.intro
      go_wp2_with (first
       | ((with_reducible refine gate_d (N := 46) rfl ?_); refine ag_fix (.pointer (some ⟨ga, 2, none⟩)) (ex_field 40 2 (.pointer (some ⟨ga, 0, none⟩)) (.pointer (some ⟨ga, 2, none⟩)) (t_fa40_2 ga) _ rfl rfl) rfl ?_)
       | ((with_reducible refine gate_d (N := 47) rfl ?_); refine ag_fix (.int .i64 x.2.2.1) (ex_get t_sT3 ga 2 (.int .i64 x.2.2.1) (en40 x).toArray BK7.out rfl _ rfl rfl) rfl ?_)
       | ((with_reducible refine gate_d (N := 48) rfl ?_); refine ag_fix (.agg #[.int .i64 (m : Int), .int .i64 x.2.2.1]) (ex_build _ _ rfl (fun w_ => by simp only [List.map_toArray, List.map_cons, List.map_nil]; kernel_rfl)) rfl ?_)
       | (at_lookup; clear t5; refine wpList_lookup_own_ok_int _ rfl _ _ 52 rfl 53 3 .i64 k53 t_u52 (by kernel_rfl) (zero3 _) bm j D rfl TW7.out.m _ (kl53 (m, x.2.2.1)) rfl (key53 (k := (m, x.2.2.1)) HM0.out HWX.out.1) ?_; intro c_ hat_ hwc_; obtain rfl : c_ = gv := (by rw [HAT.out] at hat_; injection hat_ with hat_; injection hat_ with _ hat_; exact hat_.symm); rw [HHAS.out]; clear hat_ hwc_))
      (try simp only [Act.put, sI, sZ, sS])
      have WR64 := i64_w
      refine sq_region (fun w'_ => Blk w'_ ga 40 (en40 x).toArray) [] [(0, 2), (1, 2), (3, 2), (4, 1), (5, 2), (6, 1), (2, 0), (7, 0)] (by kernel_rfl) (by kernel_rfl) (by kernel_rfl) rfl ?_
      intro w8 hb_
      have TW8 := hid (TW7.out.go hb_)
      have BK8 := hid (BK7.out.below hb_ BK7.out.lt)
      clear hb_ TW7 BK7
      refine sq_pure (.pointer (some ⟨g, 0, none⟩)) rfl (fun w'_ => by go_simp) rfl rfl ?_
      intro ts_ ht_; simp only [sI, sZ, sS] at ht_; subst ht_
      refine sq_pure (.int .i64 (m : Int)) rfl (fun w'_ => by go_simp) rfl rfl ?_
      intro ts_ ht_; simp only [sI, sZ, sS] at ht_; subst ht_
      refine sq_pure (.pointer (some ⟨ga, 2, none⟩)) rfl (fun w'_ => ex_field 40 2 (.pointer (some ⟨ga, 0, none⟩)) (.pointer (some ⟨ga, 2, none⟩)) (t_fa40_2 ga) _ rfl rfl) rfl rfl ?_
      intro ts_ ht_; simp only [sI, sZ, sS] at ht_; subst ht_
      refine sq_take (.int .i64 x.2.2.1) BK8.out rfl (fun w'_ hS_ => ex_get t_sT3 ga 2 (.int .i64 x.2.2.1) (en40 x).toArray hS_ rfl _ rfl rfl) rfl rfl ?_
      intro ts_ ht_; simp only [sI, sZ, sS] at ht_; subst ht_
      refine sq_pure (.pointer (some ⟨ga, 3, none⟩)) rfl (fun w'_ => ex_field 40 3 (.pointer (some ⟨ga, 0, none⟩)) (.pointer (some ⟨ga, 3, none⟩)) (t_fa40_3 ga) _ rfl rfl) rfl rfl ?_
      intro ts_ ht_; simp only [sI, sZ, sS] at ht_; subst ht_
      refine sq_take (.int .i64 x.2.2.2) BK8.out rfl (fun w'_ hS_ => ex_get t_sT3 ga 3 (.int .i64 x.2.2.2) (en40 x).toArray hS_ rfl _ rfl rfl) rfl rfl ?_
      intro ts_ ht_; simp only [sI, sZ, sS] at ht_; subst ht_
      refine sq_act rfl (fun Q'_ hQ_ => ?_)
      refine wl_call 25 #[.int .i64 (m : Int)] (by go_simp) rfl ((at_calls (m : Int) x.2.2.1 _).mono ?_)
      rintro e_ w9 ⟨rfl, hb_⟩
      have TW9 := hid (TW8.out.go hb_)
      have BK9 := hid (BK8.out.below hb_ BK8.out.lt)
      clear hb_ TW8 BK8
      refine ⟨_, rfl, ?_⟩
      refine hQ_ _ _ (fun _ => BK9.out) ?_
      clear hQ_ Q'_
      simp only [Act.put, sI, sZ, sS]
      refine sq_act rfl (fun Q'_ hQ_ => ?_)
      refine wl_call 24 #[.pointer (some ⟨g, 0, none⟩), .agg (pv (atK (m : Int) x.2.2.1).1 (atK (m : Int) x.2.2.1).2.1 (atK (m : Int) x.2.2.1).2.2.1 (atK (m : Int) x.2.2.1).2.2.2.1), .int .i64 x.2.2.1, .int .i64 x.2.2.2] (by go_simp) rfl ((TW9.out.put (atK (m : Int) x.2.2.1) (atK_good _ _) x.2.2.2).mono ?_)
      rintro e_ w10 ⟨v_, F10, rfl, tw_, fr_, hf_⟩
      have TW10 := hid tw_
      have BK10 := hid (fr_.blk BK9.out NF1.out)
      clear tw_ fr_ hf_ TW9 BK9
      refine ⟨_, rfl, ?_⟩
      refine hQ_ _ _ (fun _ => BK10.out) ?_
      clear hQ_ Q'_
      change Sq _ _ _ _ _ _ (Act.put _ (some 66) _) _
      simp only [Act.put, sI, sZ, sS]
      refine sq_end ?_
      clear WR64
      have t6 := True.intro
      go_wp2_with (first
       | ((with_reducible refine gate_d (N := 69) rfl ?_); refine ag_fix (.pointer (some ⟨ga, 2, none⟩)) (ex_field 40 2 (.pointer (some ⟨ga, 0, none⟩)) (.pointer (some ⟨ga, 2, none⟩)) (t_fa40_2 ga) _ rfl rfl) rfl ?_)
       | ((with_reducible refine gate_d (N := 70) rfl ?_); refine ag_fix (.int .i64 x.2.2.1) (ex_get t_sT3 ga 2 (.int .i64 x.2.2.1) (en40 x).toArray BK10.out rfl _ rfl rfl) rfl ?_)
       | ((with_reducible refine gate_d (N := 71) rfl ?_); refine ag_fix (.agg #[.int .i64 (m : Int), .int .i64 x.2.2.1]) (ex_build _ _ rfl (fun w_ => by simp only [List.map_toArray, List.map_cons, List.map_nil]; kernel_rfl)) rfl ?_)
       | ((with_reducible refine gate_d (N := 72) rfl ?_); refine ag_fix (.pointer (some ⟨ga, 3, none⟩)) (ex_field 40 3 (.pointer (some ⟨ga, 0, none⟩)) (.pointer (some ⟨ga, 3, none⟩)) (t_fa40_3 ga) _ rfl rfl) rfl ?_)
       | ((with_reducible refine gate_d (N := 73) rfl ?_); refine ag_fix (.int .i64 x.2.2.2) (ex_get t_sT3 ga 3 (.int .i64 x.2.2.2) (en40 x).toArray BK10.out rfl _ rfl rfl) rfl ?_)
       | (at_mapUpdate; clear t6; have hk_ := key53 (k := (m, x.2.2.1)) HM0.out HWX.out.1; have hv_ : plainElem (H := Unit) Try.prog 3 (.int .i64 x.2.2.2) = some (.lit (.int .i64 x.2.2.2), []) := plainElem_int (by kernel_rfl) HWX.out.2; have hn_ : j < maxLen := (by have := HJM.out; have := HL1n.out; unfold maxLen; omega); refine wpList_mapUpdate_own _ rfl _ _ _ 52 rfl 53 3 k53 t_u52 (plainElem (H := Unit) Try.prog 3) bm j D rfl TW10.out.m hn_ (.agg #[.int .i64 (m : Int), .int .i64 x.2.2.1]) (.int .i64 x.2.2.2) (kl53 (m, x.2.2.1)) rfl rfl hk_ (.lit (.int .i64 x.2.2.2)) [] hv_ ?_; clear hk_ hv_ hn_; intro w11 hm_ hg_; have TW11 := hid (TW10.out.upd hm_ hg_); have BK11 : Hid (Blk w11 ga 40 (en40 x).toArray) := hid ((hg_.block ga BK10.out.lt (fun e_ => NBM.out (by injection e_))).trans BK10.out); have HMP2 := hid (mp_put HMP.out HOK.out x.2.2.2 rfl (hm_.tidy k53)); have HGO2 := hid (good_put HGO.out (atK (m : Int) x.2.2.1) x.2.2.2 HL0.out); have HLK2 := hid (lk_put HLK.out HGO.out HMP.out.ok HOK.out x.2.2.2 HL0.out); clear hm_ hg_ TW10 BK10))
      (try simp only [Act.put, sI, sZ, sS])
      have HG2 : Hid (getZ (putZ L (atK (m : Int) x.2.2.1) x.2.2.2) (atK (m : Int) x.2.2.1) = some x.2.2.2) := hid (get_put HGO.out _ _ HL0.out)
      have WR64 := i64_w
      refine sq_region (fun w'_ => Blk w'_ ga 40 (en40 x).toArray) [] [(0, 2), (1, 2), (3, 2), (4, 1), (2, 0), (5, 0), (6, 2), (7, 2), (8, 2), (9, 2), (10, 2)] (by kernel_rfl) (by kernel_rfl) (by kernel_rfl) rfl ?_
      intro w12 hb_
      have TW12 := hid (TW11.out.go hb_)
      have BK12 := hid (BK11.out.below hb_ BK11.out.lt)
      clear hb_ TW11 BK11
      refine sq_pure (.pointer (some ⟨g, 0, none⟩)) rfl (fun w'_ => by go_simp) rfl rfl ?_
      intro ts_ ht_; simp only [sI, sZ, sS] at ht_; subst ht_
      refine sq_pure (.int .i64 (m : Int)) rfl (fun w'_ => by go_simp) rfl rfl ?_
      intro ts_ ht_; simp only [sI, sZ, sS] at ht_; subst ht_
      refine sq_pure (.pointer (some ⟨ga, 2, none⟩)) rfl (fun w'_ => ex_field 40 2 (.pointer (some ⟨ga, 0, none⟩)) (.pointer (some ⟨ga, 2, none⟩)) (t_fa40_2 ga) _ rfl rfl) rfl rfl ?_
      intro ts_ ht_; simp only [sI, sZ, sS] at ht_; subst ht_
      refine sq_take (.int .i64 x.2.2.1) BK12.out rfl (fun w'_ hS_ => ex_get t_sT3 ga 2 (.int .i64 x.2.2.1) (en40 x).toArray hS_ rfl _ rfl rfl) rfl rfl ?_
      intro ts_ ht_; simp only [sI, sZ, sS] at ht_; subst ht_
      refine sq_act rfl (fun Q'_ hQ_ => ?_)
      refine wl_call 25 #[.int .i64 (m : Int)] (by go_simp) rfl ((at_calls (m : Int) x.2.2.1 _).mono ?_)
      rintro e_ w13 ⟨rfl, hb_⟩
      have TW13 := hid (TW12.out.go hb_)
      have BK13 := hid (BK12.out.below hb_ BK12.out.lt)
      clear hb_ TW12 BK12
      refine ⟨_, rfl, ?_⟩
      refine hQ_ _ _ (fun _ => BK13.out) ?_
      clear hQ_ Q'_
      simp only [Act.put, sI, sZ, sS]
      refine sq_act rfl (fun Q'_ hQ_ => ?_)
      refine wl_call 28 #[.pointer (some ⟨g, 0, none⟩), .agg (pv (atK (m : Int) x.2.2.1).1 (atK (m : Int) x.2.2.1).2.1 (atK (m : Int) x.2.2.1).2.2.1 (atK (m : Int) x.2.2.1).2.2.2.1), .int .i64 x.2.2.1] (by go_simp) rfl ((TW13.out.get (atK (m : Int) x.2.2.1) (atK_good _ _)).mono ?_)
      rintro e_ w14 ⟨rfl, tw_, hb_⟩
      have TW14 := hid tw_
      have BK14 := hid (BK13.out.below hb_ BK13.out.lt)
      clear tw_ hb_ TW13 BK13
      refine ⟨_, rfl, ?_⟩
      rw [HG2.out]
      simp only [Option.getD_some, Option.isSome_some]
      refine hQ_ _ _ (fun _ => BK14.out) ?_
      clear hQ_ Q'_
      change Sq _ _ _ _ _ _ (Act.put _ (some 80) _) _
      simp only [Act.put, sI, sZ, sS]
      refine sq_pure (.tuple #[.int .i64 x.2.2.2, .bool true]) rfl (fun w'_ => by go_simp) rfl rfl ?_
      intro ts_ ht_; simp only [sI, sZ, sS] at ht_; subst ht_
      refine sq_pure (.int .i64 x.2.2.2) rfl (fun w'_ => by go_simp) rfl rfl ?_
      intro ts_ ht_; simp only [sI, sZ, sS] at ht_; subst ht_
      refine sq_pure (.bool true) rfl (fun w'_ => by go_simp) rfl rfl ?_
      intro ts_ ht_; simp only [sI, sZ, sS] at ht_; subst ht_
      refine sq_pure (.int .i64 x.2.2.2) rfl (fun w'_ => by go_simp) rfl rfl ?_
      intro ts_ ht_; simp only [sI, sZ, sS] at ht_; subst ht_
      refine sq_pure (.bool true) rfl (fun w'_ => by go_simp) rfl rfl ?_
      intro ts_ ht_; simp only [sI, sZ, sS] at ht_; subst ht_
      refine sq_end ?_
      clear WR64
      go_wp2_with (first
       | ((with_reducible refine gate_d (N := 87) rfl ?_); refine ag_fix (.pointer (some ⟨ga, 3, none⟩)) (ex_field 40 3 (.pointer (some ⟨ga, 0, none⟩)) (.pointer (some ⟨ga, 3, none⟩)) (t_fa40_3 ga) _ rfl rfl) rfl ?_)
       | ((with_reducible refine gate_d (N := 88) rfl ?_); refine ag_fix (.int .i64 x.2.2.2) (ex_get t_sT3 ga 3 (.int .i64 x.2.2.2) (en40 x).toArray BK14.out rfl _ rfl rfl) rfl ?_))
      (try simp only [Act.put, sI, sZ, sS])
      go_roundg K1
      case measure => omega
      case rel => exact ⟨_, j + 1, rfl, hid (by have := HJ.out; have := HC.out; have := HL1n.out; rw [k64 (by omega) (by omega)]; omega), hid (by have := HK2.out; omega), hid (by have := HJ.out; have := HC.out; omega), hid ⟨_, _, _, _, _, (putZ_len _ _ _).trans HLL.out, HGO2.out, HLK2.out, HMP2.out, TW14.out⟩⟩
    ·
     have cb : decide (x26 < (l.length : Int)) = false := decide_eq_false c
     clear c
     have c8n : lenZ L ≤ Maps.size D := by have h_ := lk_len HLK.out HGO.out; rw [HMP.out.size]; omega
     have c7n : lenZ L ≤ L.length := lenZ_le L
     have c7_ : decide ((lenZ L : Int) ≤ (L.length : Int)) = true := decide_eq_true (by have := lenZ_le L; omega)
     have c8_ : decide ((lenZ L : Int) ≤ ((Maps.size D : Nat) : Int)) = true := decide_eq_true (by have h_ := lk_len HLK.out HGO.out; rw [HMP.out.size]; omega)
     have t5 := True.intro
     have t6 := True.intro
     have t7 := True.intro
     have t8 := True.intro
     go_wp2_with (first
      | (go_at_call 27; clear t5; refine (TW.out.len).mono ?_; rintro e_ w5 ⟨rfl, rfl⟩)
      | (go_at_call 29; clear t6; refine (TW.out.places).mono ?_; rintro e_ w6 ⟨rfl, rfl⟩)
      | (go_at_call 27; clear t7; refine (TW.out.len).mono ?_; rintro e_ w7 ⟨rfl, rfl⟩)
      | ((with_reducible refine gate_d (N := 101) rfl ?_); clear t8; refine ag_fix (.int .i64 ((Maps.size D : Nat) : Int)) (ex_mlen TW.out.m _ rfl rfl) rfl ?_))
     (try simp only [Act.put, sI, sZ, sS])
     go_ret
     exact ⟨by first | rfl | (simp; done) | (simp [c7n, c8n]; done) | (simp; exact c8n), TW.out.below⟩
end Go.Proofs.Ytpjocgebnodnoaa
