/- Tables: the program's and the reference's, side by side; whatever is put, got and cleared is the same in both. -/
import Derived.Test.YtpjocgebnodnoaaVd
import Derived.Test.YtpjocgebnodnoaaOa
namespace Go.Proofs.Ytpjocgebnodnoaa
open Go.RowKit
set_option linter.unusedVariables false
set_option linter.unusedSimpArgs false
set_option maxRecDepth 100000
theorem atK_goodR (n d : Int) : GoodR (atK n d) := ⟨atK_good n d, (same_at n d).trans (atK_good n d).2⟩
theorem putZ_len (L : Slots) (q : Key) (y : Int) : (putZ L q y).length = L.length := by unfold putZ; rw [List.length_set]
theorem emptyZ_len (n : Nat) : (emptyZ n).length = n := by unfold emptyZ; simp
theorem en_one (l : List ActT) : ∀ u ∈ l.flatMap en40, u.oneCell' = true := by
  intro u hu
  rw [List.mem_flatMap] at hu
  obtain ⟨x, _, hx⟩ := hu
  simp [en40] at hx
  rcases hx with rfl | rfl | rfl | rfl <;> rfl
/-- the two tables, apart from each other, in blocks that are new since w0. -/
structure Pr (w0 w : World) (F : Nat → Prop) (L L2 : Slots) (g a g2 a2 : Nat) : Prop where
  t1 : ∃ ps, TBx w F L g a ps
  t2 : RBx w L2 g2 a2
  b1 : ∀ k, F k → w0.heap.size ≤ k
  b2 : w0.heap.size ≤ g2 ∧ w0.heap.size ≤ a2
  dj : ¬ F g2 ∧ ¬ F a2
  below : Below w0.heap.size w0 w
section
variable {w0 w w' : World} {F : Nat → Prop} {L L2 : Slots} {g a g2 a2 : Nat}
theorem Pr.go (h : Pr w0 w F L L2 g a g2 a2) (hb : Below w.heap.size w w') : Pr w0 w' F L L2 g a g2 a2 :=
  ⟨by obtain ⟨ps, h1⟩ := h.t1; exact ⟨ps, h1.below hb⟩, h.t2.below hb, h.b1, h.b2, h.dj, h.below.trans (hb.mono h.below.size)⟩
theorem Pr.lt1 (h : Pr w0 w F L L2 g a g2 a2) : ∀ k, F k → k < w.heap.size := by obtain ⟨ps, h1⟩ := h.t1; exact h1.lt
theorem Pr.lt2 (h : Pr w0 w F L L2 g a g2 a2) : g2 < w.heap.size ∧ a2 < w.heap.size := ⟨h.t2.tab.lt, h.t2.row.lt⟩
theorem Pr.put (h : Pr w0 w F L L2 g a g2 a2) (q : Key) (hq : GoodKey q) (y : Int) :
    Calls Try.prog 24 #[.pointer (some ⟨g, 0, none⟩), .agg (pv q.1 q.2.1 q.2.2.1 q.2.2.2.1), .int .i64 q.2.2.2.2, .int .i64 y] w fun e w' => ∃ v F', e = .returned v ∧ Pr w0 w' F' (putZ L q y) L2 g a g2 a2 ∧ Fr F w w' := by
  obtain ⟨ps, h1⟩ := h.t1
  refine (put_calls h1 q hq y).mono ?_
  rintro e w' ⟨v, rfl, F', ps', t', hF', fr⟩
  have l2 := h.lt2
  refine ⟨v, F', rfl, ⟨⟨ps', t'⟩, h.t2.frame fr h.dj.1 h.dj.2, fun k hk => ?_, h.b2, ⟨fun hk => ?_, fun hk => ?_⟩, h.below.trans (fr.below h.b1 h.below.size)⟩, fr⟩
  · rcases hF' k hk with h3 | h3
    · exact h.b1 k h3
    · exact Nat.le_trans h.below.size h3
  · rcases hF' _ hk with h3 | h3
    · exact h.dj.1 h3
    · omega
  · rcases hF' _ hk with h3 | h3
    · exact h.dj.2 h3
    · omega
theorem Pr.rput (h : Pr w0 w F L L2 g a g2 a2) (q : Key) (hq : GoodR q) (y : Int) :
    Calls Try.prog 31 #[.pointer (some ⟨g2, 0, none⟩), .agg (pv q.1 q.2.1 q.2.2.1 q.2.2.2.1), .int .i64 q.2.2.2.2, .int .i64 y] w fun e w' => ∃ v, e = .returned v ∧ Pr w0 w' F L (putZ L2 q y) g a g2 a2 ∧ Fr (fun k => k = a2) w w' := by
  obtain ⟨ps, h1⟩ := h.t1
  refine (rput_calls h.t2 q hq y).mono ?_
  rintro e w' ⟨v, rfl, t', fr⟩
  exact ⟨v, rfl, ⟨⟨ps, h1.frame fr (fun k hk hk1 => h.dj.2 (by rw [← hk1]; exact hk))⟩, t', h.b1, h.b2, h.dj, h.below.trans (fr.below (fun k hk => by rw [hk]; exact h.b2.2) h.below.size)⟩, fr⟩
theorem Pr.get (h : Pr w0 w F L L2 g a g2 a2) (q : Key) (hq : GoodKey q) :
    Calls Try.prog 28 #[.pointer (some ⟨g, 0, none⟩), .agg (pv q.1 q.2.1 q.2.2.1 q.2.2.2.1), .int .i64 q.2.2.2.2] w fun e w' => e = .returned (.tuple #[.int .i64 ((getZ L q).getD 0), .bool (getZ L q).isSome]) ∧ Below w.heap.size w w' := by
  obtain ⟨ps, h1⟩ := h.t1
  exact get_calls h1 q hq
theorem Pr.len (h : Pr w0 w F L L2 g a g2 a2) : Calls Try.prog 27 #[.pointer (some ⟨g, 0, none⟩)] w fun e w' => e = .returned (.int .i64 (lenZ L : Int)) ∧ w = w' := by
  obtain ⟨ps, h1⟩ := h.t1
  exact len_calls h1
theorem Pr.places (h : Pr w0 w F L L2 g a g2 a2) : Calls Try.prog 29 #[.pointer (some ⟨g, 0, none⟩)] w fun e w' => e = .returned (.int .i64 (L.length : Int)) ∧ w = w' := by
  obtain ⟨ps, h1⟩ := h.t1
  exact places_calls h1
theorem Pr.clear (h : Pr w0 w F L L2 g a g2 a2) : Calls Try.prog 26 #[.pointer (some ⟨g, 0, none⟩)] w fun e w' => ∃ v, e = .returned v ∧ Pr w0 w' F (emptyZ L.length) L2 g a g2 a2 ∧ Fr F w w' := by
  obtain ⟨ps, h1⟩ := h.t1
  refine (clear_calls h1).mono ?_
  rintro e w' ⟨v, rfl, ⟨ps', t'⟩, fr⟩
  exact ⟨v, rfl, ⟨⟨ps', t'⟩, h.t2.frame fr h.dj.1 h.dj.2, h.b1, h.b2, h.dj, h.below.trans (fr.below h.b1 h.below.size)⟩, fr⟩
theorem Pr.fresh (h : Pr w0 w F L L2 g a g2 a2) {L3 : Slots} {g3 a3 : Nat} (t : RBx w' L3 g3 a3) (hg : w.heap.size ≤ g3) (ha : w.heap.size ≤ a3) (hb : Below w.heap.size w w') : Pr w0 w' F L L3 g a g3 a3 := by
  have h1 := h.lt1
  have h2 := h.below.size
  exact ⟨(h.go hb).t1, t, h.b1, ⟨by omega, by omega⟩, ⟨fun hk => by have := h1 _ hk; omega, fun hk => by have := h1 _ hk; omega⟩, (h.go hb).below⟩
end
theorem pr_new {w0 w1 w2 : World} {g a g2 a2 n : Nat} {ps : Array Value} (h1 : TBx w1 (fun k => k = g ∨ k = a) (emptyZ n) g a ps) (hg : w0.heap.size ≤ g) (ha : w0.heap.size ≤ a) (hb : Below w0.heap.size w0 w1)
    (h2 : RBx w2 (emptyZ n) g2 a2) (hg2 : w1.heap.size ≤ g2) (ha2 : w1.heap.size ≤ a2) (hb2 : Below w1.heap.size w1 w2) : Pr w0 w2 (fun k => k = g ∨ k = a) (emptyZ n) (emptyZ n) g a g2 a2 := by
  have l1 := h1.lt g (.inl rfl)
  have l2 := h1.lt a (.inr rfl)
  have hs := hb.size
  exact ⟨⟨ps, h1.below hb2⟩, h2, fun k hk => by rcases hk with rfl | rfl <;> assumption, ⟨by omega, by omega⟩, ⟨fun hk => by rcases hk with rfl | rfl <;> omega, fun hk => by rcases hk with rfl | rfl <;> omega⟩, hb.trans (hb2.mono hb.size)⟩
theorem pos_one (b : List Int) (t c e : Int) : ∀ v ∈ (pv b t c e).toList, v.oneCell' = true := by rw [pv_xv]; exact xv_one (fun _ => rfl) (by intro v hv; simp at hv; rcases hv with rfl | rfl | rfl <;> rfl)
theorem get_none {L : Slots} {q : Key} (h : findZ_ L q = none) : getZ L q = none := by unfold getZ; rw [h]; rfl
theorem get_some {L : Slots} {q : Key} {i : Nat} (h : findZ_ L q = some i) : getZ L q = some (valZ L i) := by
  obtain ⟨x, hx⟩ := found_at h
  unfold getZ valZ; rw [h]; simp [hx]
set_option maxHeartbeats 40000000 in
theorem walk_TableActs (a0 : Int) (v1 : Value) (l : List ActT) (w : World) (hs1 : SlN w 4 v1 l.length (l.flatMap en40)) :
    Calls Try.prog 8 #[.int .i64 a0, v1] w fun e w' => e = .returned (.bool true) ∧ Below w.heap.size w w' := by
 have HL := hid (Below.refl w.heap.size w)
 have HS1 := hid hs1
 obtain ⟨A1, c1, hv1_⟩ := hs1.shape
 have HV1 := hid hv1_
 clear hs1 hv1_
 by_cases k1 : (l.length : Int) > 100
 · have cb1 : decide ((l.length : Int) > 100) = true := decide_eq_true k1
   have cb1' : decide ((100 : Int) < (l.length : Int)) = true := decide_eq_true k1
   clear k1
   go_enter Try.func8, Try.ntmps8
   have t1 := True.intro
   have t2 := True.intro
   have t3 := True.intro
   go_wp2_with (first
     | (go_at_call 22; clear t1; refine (wakes_calls _).mono ?_; rintro e_ w1 ⟨rfl, hb_⟩; have HL1 := hid (HL.out.trans (hb_.mono HL.out.size)); clear hb_ HL)
     | ((with_reducible refine gate_d (N := 16) rfl ?_); refine ag_fix (.int .i64 (l.length : Int)) (ex_lenN t_us36 A1 _ c1 _ HV1.out _ rfl rfl) rfl ?_))
   (try simp only [Act.put, sI, sZ, sS])
   go_ret
   exact ⟨by first | rfl | (simp; done), HL1.out⟩
 · have cb1 : decide ((l.length : Int) > 100) = false := decide_eq_false k1
   have cb1' : decide ((100 : Int) < (l.length : Int)) = false := decide_eq_false k1
   have HLn := hid k1
   clear k1
   go_enter Try.func8, Try.ntmps8
   have t1 := True.intro
   have t2 := True.intro
   have t3 := True.intro
   go_wp2_with (first
     | (go_at_call 22; clear t1; refine (wakes_calls _).mono ?_; rintro e_ w1 ⟨rfl, hb_⟩; have HL1 := hid (HL.out.trans (hb_.mono HL.out.size)); clear hb_ HL)
     | ((with_reducible refine gate_d (N := 16) rfl ?_); refine ag_fix (.int .i64 (l.length : Int)) (ex_lenN t_us36 A1 _ c1 _ HV1.out _ rfl rfl) rfl ?_)
     | (go_at_call 23; clear t2; refine (new_calls _ a0).mono ?_; rintro e_ w2 ⟨g, a, ps, rfl, tb_, hg_, ha_, _, hb_⟩; have TBa := hid tb_; have HG1 := hid (Nat.le_trans HL1.out.size hg_); have HA1 := hid (Nat.le_trans HL1.out.size ha_); have HL2 := hid (HL1.out.trans (hb_.mono HL1.out.size)); clear tb_ hg_ ha_ hb_ HL1)
     | (go_at_call 30; clear t3; refine (rnew_calls _ a0).mono ?_; rintro e_ w3 ⟨g2, a2, rfl, tb_, hg_, ha_, hb_⟩; have PR := hid (pr_new TBa.out HG1.out HA1.out HL2.out tb_ hg_ ha_ hb_); clear tb_ hg_ ha_ hb_ TBa HG1 HA1 HL2))
   (try simp only [Act.put, sI, sZ, sS])
   have WR64 := i64_w
   refine sq_region (fun w'_ => Blk w'_ g2 59 #[.slice (some ⟨a2, 0, none⟩) (emptyZ (placesZ a0)).length (emptyZ (placesZ a0)).length]) [] [(0, 2), (2, 2), (3, 2), (4, 2), (5, 1), (6, 2), (1, 0), (7, 2)] (by kernel_rfl) (by kernel_rfl) (by kernel_rfl) rfl ?_
   intro w4 hb_
   have PR4 := hid (PR.out.go hb_)
   clear hb_ PR
   refine sq_pure (.pointer (some ⟨g, 0, none⟩)) rfl (fun w'_ => by go_simp) rfl rfl ?_
   intro ts_ ht_; simp only [sI, sZ, sS] at ht_; subst ht_
   refine sq_pure (.pointer (some ⟨g2, 0, none⟩)) rfl (fun w'_ => by go_simp) rfl rfl ?_
   intro ts_ ht_; simp only [sI, sZ, sS] at ht_; subst ht_
   refine sq_pure (.pointer (some ⟨g2, 0, none⟩)) rfl (fun w'_ => by go_simp) rfl rfl ?_
   intro ts_ ht_; simp only [sI, sZ, sS] at ht_; subst ht_
   refine sq_pure (.pointer (some ⟨g2, 0, none⟩)) rfl (fun w'_ => ex_field 59 0 (.pointer (some ⟨g2, 0, none⟩)) (.pointer (some ⟨g2, 0, none⟩)) (t_fa59_0 g2) _ rfl rfl) rfl rfl ?_
   intro ts_ ht_; simp only [sI, sZ, sS] at ht_; subst ht_
   refine sq_take (.slice (some ⟨a2, 0, none⟩) (emptyZ (placesZ a0)).length (emptyZ (placesZ a0)).length) PR4.out.t2.tab rfl (fun w'_ hS_ => ex_get t_sT57 g2 0 (.slice (some ⟨a2, 0, none⟩) (emptyZ (placesZ a0)).length (emptyZ (placesZ a0)).length) #[.slice (some ⟨a2, 0, none⟩) (emptyZ (placesZ a0)).length (emptyZ (placesZ a0)).length] hS_ rfl _ rfl rfl) rfl rfl ?_
   intro ts_ ht_; simp only [sI, sZ, sS] at ht_; subst ht_
   refine sq_pure (.int .i64 ((emptyZ (placesZ a0)).length : Int)) rfl (fun w'_ => ex_len t_us57 _ _ _ _ rfl _ rfl rfl) rfl rfl ?_
   intro ts_ ht_; simp only [sI, sZ, sS] at ht_; subst ht_
   refine sq_act rfl (fun Q'_ hQ_ => ?_)
   refine wl_call 29 #[.pointer (some ⟨g, 0, none⟩)] (by go_simp) rfl (PR4.out.places.mono ?_)
   rintro e_ w5 ⟨rfl, rfl⟩
   refine ⟨_, rfl, ?_⟩
   refine hQ_ _ _ (fun _ => PR4.out.t2.tab) ?_
   clear hQ_ Q'_
   simp only [Act.put, sI, sZ, sS]
   refine sq_pure (.bool false) rfl (fun w'_ => by go_simp) rfl rfl ?_
   intro ts_ ht_; simp only [sI, sZ, sS] at ht_; subst ht_
   refine sq_end ?_
   clear WR64
   have PR0 : Hid (∃ F L, L.length = placesZ a0 ∧ Pr w w4 F L L g a g2 a2) := hid ⟨_, _, emptyZ_len _, PR4.out⟩
   clear PR4
   go_wp2_with (first
     | ((with_reducible refine gate_d (N := 31) rfl ?_); refine ag_fix (.int .i64 (l.length : Int)) (ex_lenN t_us36 A1 _ c1 _ HV1.out _ rfl rfl) rfl ?_))
   (try simp only [Act.put, sI, sZ, sS])
   go_loopg [6, 32] (l.length + 1) (fun kq v6 v32 w' => ∃ (x32 : Int) (j g2 a2 : Nat), v6 = .pointer (some ⟨g2, 0, none⟩) ∧ v32 = .int .i64 x32 ∧ Hid (x32 = (j : Int)) ∧ Hid (kq + j = l.length + 1) ∧ Hid (j ≤ l.length) ∧ Hid (∃ F L, L.length = placesZ a0 ∧ Pr w w' F L L g a g2 a2))
   case atStart => exact ⟨0, 0, g2, a2, rfl, (by first | rfl | (simp; done)), hid rfl, hid (by omega), hid (by omega), PR0⟩
   case round =>
    clear PR0
    obtain ⟨x32, j, g2n, a2n, rfl, rfl, HJ, HK2, HJM, HTW⟩ := hrel
    obtain ⟨F, L, hl_, pr_⟩ := HTW.out
    have HLL := hid hl_
    have PR := hid pr_
    clear hl_ pr_ HTW
    obtain ⟨K1, rfl⟩ : ∃ K_, gk = K_ + 1 := ⟨gk - 1, by have := HK2.out; have := HJM.out; omega⟩
    by_cases c : x32 < (l.length : Int)
    ·
     have cb : decide (x32 < (l.length : Int)) = true := decide_eq_true c
     have HC := hid c
     clear c
     have HJ0 : Hid (0 ≤ x32) := hid (by have := HJ.out; omega)
     obtain ⟨x, hx_⟩ : ∃ z, nt l x32.toNat z40 = z := ⟨_, rfl⟩
     obtain ⟨ad, c0, hv_, hc_⟩ := SlN.get en40_len (HS1.out.below PR.out.below) z40 HJ0.out HC.out
     rw [hx_] at hc_
     have HVA := hid hv_
     have HCE := hid hc_
     clear hv_ hc_
     have HX := hid hx_
     clear hx_
     have t4 := True.intro
     have t5 := True.intro
     have t6 := True.intro
     by_cases q0 : x.1 = 0
     ·
      have cq0 : (x.1 == (0 : Int)) = true := beq_iff_eq.mpr q0
      clear q0
      have t7 := True.intro
      have t8 := True.intro
      cases hf_ : findZ_ (putZ L (atK x.2.1 x.2.2.1) x.2.2.2) (atK x.2.1 x.2.2.1) with
      | none =>
       have HG : Hid ((getZ (putZ L (atK x.2.1 x.2.2.1) x.2.2.2) (atK x.2.1 x.2.2.1)) = none) := hid (get_none hf_)
       have HF : Hid (fndV (putZ L (atK x.2.1 x.2.2.1) x.2.2.2) (atK x.2.1 x.2.2.1) = -1) := hid (by unfold fndV; rw [hf_])
       clear hf_
       have s1 := True.intro
       have s2 := True.intro
       go_wp2_with (first
         | ((with_reducible refine gate_d (N := 34) rfl ?_); refine ag_fix (.pointer (some (ad.add (x32.toNat * 4)))) (ex_satN _ _ x32 _ _ HVA.out HJ0.out HC.out t_us36 t_aT40.size _ _ rfl rfl rfl) rfl ?_)
         | ((with_reducible refine gate_d (N := 35) rfl ?_); refine ag_fix (.agg (en40 x).toArray) (ex_ldN t_aT40 _ _ (en40_len x) HCE.out _ rfl rfl) rfl ?_)
         | ((with_reducible refine gate_d (N := 8) rfl ?_); clear t4; obtain ⟨ga, hga⟩ : ∃ g_, wr.heap.size = g_ := ⟨_, rfl⟩; refine ag_alst t_aT40 (en40 x).toArray ga hga rfl (by intro u_ hu_; exact en_one [x] u_ (by simpa using hu_)) rfl rfl 8 rfl _ _ rfl (fun _ => rfl) (fun _ => rfl) rfl ?_; intro w4 hb_ hB_ hs_; have NFa : Hid (¬ F ga ∧ ga ≠ a2n) := hid ⟨fun h_ => by have := PR.out.lt1 ga h_; omega, by have := PR.out.lt2.2; omega⟩; have PR4 := hid (PR.out.go (by rw [hga]; exact hb_)); have BKx := hid hB_; clear hb_ hB_ hs_ hga PR HCE)
         | ((with_reducible refine gate_d (N := 36) rfl ?_); refine ag_fix (.pointer (some ⟨ga, 1, none⟩)) (ex_field 40 1 (.pointer (some ⟨ga, 0, none⟩)) (.pointer (some ⟨ga, 1, none⟩)) (t_fa40_1 ga) _ rfl rfl) rfl ?_)
         | ((with_reducible refine gate_d (N := 37) rfl ?_); refine ag_fix (.int .i64 x.2.1) (ex_get t_sT3 ga 1 (.int .i64 x.2.1) (en40 x).toArray BKx.out rfl _ rfl rfl) rfl ?_)
         | (go_at_call 25; clear t5; refine (at_calls x.2.1 x.2.2.1 _).mono ?_; rintro e_ w5 ⟨rfl, hb_⟩; have PR5 := hid (PR4.out.go hb_); have BKx5 := hid (BKx.out.below hb_ BKx.out.lt); clear hb_ PR4 BKx)
         | ((with_reducible refine gate_d (N := 9) rfl ?_); clear t6; obtain ⟨gp, hgp⟩ : ∃ g_, w5.heap.size = g_ := ⟨_, rfl⟩; refine ag_alst posT (pv (atK x.2.1 x.2.2.1).1 (atK x.2.1 x.2.2.1).2.1 (atK x.2.1 x.2.2.1).2.2.1 (atK x.2.1 x.2.2.1).2.2.2.1) gp hgp (by rw [pv_xv, xv_size, (atK_good _ _).1]; rfl) (pos_one _ _ _ _) rfl rfl 9 rfl _ _ rfl (fun _ => rfl) (fun _ => rfl) rfl ?_; intro w6 hb_ hB_ hs_; have NFp : Hid (¬ F gp ∧ gp ≠ a2n) := hid ⟨fun h_ => by have := PR5.out.lt1 gp h_; omega, by have := PR5.out.lt2.2; omega⟩; have PR6 := hid (PR5.out.go (by rw [hgp]; exact hb_)); have BKx6 := hid (BKx5.out.below hb_ (by have := BKx5.out.lt; omega)); have BKp := hid hB_; clear hb_ hB_ hs_ hgp PR5 BKx5)
         | ((with_reducible refine gate_d (N := 39) rfl ?_); refine ag_fix (.pointer (some ⟨ga, 0, none⟩)) (ex_field 40 0 (.pointer (some ⟨ga, 0, none⟩)) (.pointer (some ⟨ga, 0, none⟩)) (t_fa40_0 ga) _ rfl rfl) rfl ?_)
         | ((with_reducible refine gate_d (N := 40) rfl ?_); refine ag_fix (.int .i64 x.1) (ex_get t_sT3 ga 0 (.int .i64 x.1) (en40 x).toArray BKx6.out rfl _ rfl rfl) rfl ?_)
         | ((with_reducible refine gate_d (N := 44) rfl ?_); refine ag_fix (.agg (pv (atK x.2.1 x.2.2.1).1 (atK x.2.1 x.2.2.1).2.1 (atK x.2.1 x.2.2.1).2.2.1 (atK x.2.1 x.2.2.1).2.2.2.1)) (ex_load posT gp 0 (pv (atK x.2.1 x.2.2.1).1 (atK x.2.1 x.2.2.1).2.1 (atK x.2.1 x.2.2.1).2.2.1 (atK x.2.1 x.2.2.1).2.2.2.1) (pv (atK x.2.1 x.2.2.1).1 (atK x.2.1 x.2.2.1).2.1 (atK x.2.1 x.2.2.1).2.2.1 (atK x.2.1 x.2.2.1).2.2.2.1) BKp.out (pos_le (atK_good _ _).1) (pos_all (atK_good _ _).1) _ rfl rfl) rfl ?_)
         | ((with_reducible refine gate_d (N := 45) rfl ?_); refine ag_fix (.pointer (some ⟨ga, 2, none⟩)) (ex_field 40 2 (.pointer (some ⟨ga, 0, none⟩)) (.pointer (some ⟨ga, 2, none⟩)) (t_fa40_2 ga) _ rfl rfl) rfl ?_)
         | ((with_reducible refine gate_d (N := 46) rfl ?_); refine ag_fix (.int .i64 x.2.2.1) (ex_get t_sT3 ga 2 (.int .i64 x.2.2.1) (en40 x).toArray BKx6.out rfl _ rfl rfl) rfl ?_)
         | ((with_reducible refine gate_d (N := 47) rfl ?_); refine ag_fix (.pointer (some ⟨ga, 3, none⟩)) (ex_field 40 3 (.pointer (some ⟨ga, 0, none⟩)) (.pointer (some ⟨ga, 3, none⟩)) (t_fa40_3 ga) _ rfl rfl) rfl ?_)
         | ((with_reducible refine gate_d (N := 48) rfl ?_); refine ag_fix (.int .i64 x.2.2.2) (ex_get t_sT3 ga 3 (.int .i64 x.2.2.2) (en40 x).toArray BKx6.out rfl _ rfl rfl) rfl ?_)
         | (go_at_call 24; clear t7; refine (PR6.out.put (atK x.2.1 x.2.2.1) (atK_good _ _) x.2.2.2).mono ?_; rintro e_ w7 ⟨v_, F7, rfl, pr_, fr_⟩; have PR7 := hid pr_; have BKx7 := hid (fr_.blk BKx6.out NFa.out.1); have BKp7 := hid (fr_.blk BKp.out NFp.out.1); clear pr_ fr_ PR6 BKx6 BKp)
         | ((with_reducible refine gate_d (N := 51) rfl ?_); refine ag_fix (.agg (pv (atK x.2.1 x.2.2.1).1 (atK x.2.1 x.2.2.1).2.1 (atK x.2.1 x.2.2.1).2.2.1 (atK x.2.1 x.2.2.1).2.2.2.1)) (ex_load posT gp 0 (pv (atK x.2.1 x.2.2.1).1 (atK x.2.1 x.2.2.1).2.1 (atK x.2.1 x.2.2.1).2.2.1 (atK x.2.1 x.2.2.1).2.2.2.1) (pv (atK x.2.1 x.2.2.1).1 (atK x.2.1 x.2.2.1).2.1 (atK x.2.1 x.2.2.1).2.2.1 (atK x.2.1 x.2.2.1).2.2.2.1) BKp7.out (pos_le (atK_good _ _).1) (pos_all (atK_good _ _).1) _ rfl rfl) rfl ?_)
         | ((with_reducible refine gate_d (N := 52) rfl ?_); refine ag_fix (.pointer (some ⟨ga, 2, none⟩)) (ex_field 40 2 (.pointer (some ⟨ga, 0, none⟩)) (.pointer (some ⟨ga, 2, none⟩)) (t_fa40_2 ga) _ rfl rfl) rfl ?_)
         | ((with_reducible refine gate_d (N := 53) rfl ?_); refine ag_fix (.int .i64 x.2.2.1) (ex_get t_sT3 ga 2 (.int .i64 x.2.2.1) (en40 x).toArray BKx7.out rfl _ rfl rfl) rfl ?_)
         | ((with_reducible refine gate_d (N := 54) rfl ?_); refine ag_fix (.pointer (some ⟨ga, 3, none⟩)) (ex_field 40 3 (.pointer (some ⟨ga, 0, none⟩)) (.pointer (some ⟨ga, 3, none⟩)) (t_fa40_3 ga) _ rfl rfl) rfl ?_)
         | ((with_reducible refine gate_d (N := 55) rfl ?_); refine ag_fix (.int .i64 x.2.2.2) (ex_get t_sT3 ga 3 (.int .i64 x.2.2.2) (en40 x).toArray BKx7.out rfl _ rfl rfl) rfl ?_)
         | (go_at_call 31; clear t8; refine (PR7.out.rput (atK x.2.1 x.2.2.1) (atK_goodR _ _) x.2.2.2).mono ?_; rintro e_ w8 ⟨v_, rfl, pr_, fr_⟩; have PRs := hid pr_; have BXs := hid (fr_.blk BKx7.out NFa.out.2); have BPs := hid (fr_.blk BKp7.out NFp.out.2); clear pr_ fr_ PR7 BKx7 BKp7)
         | ((with_reducible refine gate_d (N := 65) rfl ?_); refine ag_fix (.agg (pv (atK x.2.1 x.2.2.1).1 (atK x.2.1 x.2.2.1).2.1 (atK x.2.1 x.2.2.1).2.2.1 (atK x.2.1 x.2.2.1).2.2.2.1)) (ex_load posT gp 0 (pv (atK x.2.1 x.2.2.1).1 (atK x.2.1 x.2.2.1).2.1 (atK x.2.1 x.2.2.1).2.2.1 (atK x.2.1 x.2.2.1).2.2.2.1) (pv (atK x.2.1 x.2.2.1).1 (atK x.2.1 x.2.2.1).2.1 (atK x.2.1 x.2.2.1).2.2.1 (atK x.2.1 x.2.2.1).2.2.2.1) BPs.out (pos_le (atK_good _ _).1) (pos_all (atK_good _ _).1) _ rfl rfl) rfl ?_)
         | ((with_reducible refine gate_d (N := 66) rfl ?_); refine ag_fix (.pointer (some ⟨ga, 2, none⟩)) (ex_field 40 2 (.pointer (some ⟨ga, 0, none⟩)) (.pointer (some ⟨ga, 2, none⟩)) (t_fa40_2 ga) _ rfl rfl) rfl ?_)
         | ((with_reducible refine gate_d (N := 67) rfl ?_); refine ag_fix (.int .i64 x.2.2.1) (ex_get t_sT3 ga 2 (.int .i64 x.2.2.1) (en40 x).toArray BXs.out rfl _ rfl rfl) rfl ?_)
         | (go_at_call 28; clear s1; refine (PRs.out.get (atK x.2.1 x.2.2.1) (atK_good _ _)).mono ?_; rintro e_ wg ⟨rfl, hb_⟩; rw [HG.out]; have PRg := hid (PRs.out.go hb_); have BXg := hid (BXs.out.below hb_ BXs.out.lt); have BPg := hid (BPs.out.below hb_ BPs.out.lt); clear hb_ PRs BXs BPs)
         | ((with_reducible refine gate_d (N := 72) rfl ?_); refine ag_fix (.agg (pv (atK x.2.1 x.2.2.1).1 (atK x.2.1 x.2.2.1).2.1 (atK x.2.1 x.2.2.1).2.2.1 (atK x.2.1 x.2.2.1).2.2.2.1)) (ex_load posT gp 0 (pv (atK x.2.1 x.2.2.1).1 (atK x.2.1 x.2.2.1).2.1 (atK x.2.1 x.2.2.1).2.2.1 (atK x.2.1 x.2.2.1).2.2.2.1) (pv (atK x.2.1 x.2.2.1).1 (atK x.2.1 x.2.2.1).2.1 (atK x.2.1 x.2.2.1).2.2.1 (atK x.2.1 x.2.2.1).2.2.2.1) BPg.out (pos_le (atK_good _ _).1) (pos_all (atK_good _ _).1) _ rfl rfl) rfl ?_)
         | ((with_reducible refine gate_d (N := 73) rfl ?_); refine ag_fix (.pointer (some ⟨ga, 2, none⟩)) (ex_field 40 2 (.pointer (some ⟨ga, 0, none⟩)) (.pointer (some ⟨ga, 2, none⟩)) (t_fa40_2 ga) _ rfl rfl) rfl ?_)
         | ((with_reducible refine gate_d (N := 74) rfl ?_); refine ag_fix (.int .i64 x.2.2.1) (ex_get t_sT3 ga 2 (.int .i64 x.2.2.1) (en40 x).toArray BXg.out rfl _ rfl rfl) rfl ?_)
         | (go_at_call 32; clear s2; refine (rfind_calls PRg.out.t2 (atK x.2.1 x.2.2.1) (atK_goodR _ _)).mono ?_; rintro e_ wf ⟨rfl, hb_⟩; rw [HF.out]; have PRf := hid (PRg.out.go hb_); clear hb_ PRg BXg BPg))
       (try simp only [Act.put, sI, sZ, sS])
       go_roundg K1
       case measure => omega
       case rel => exact ⟨_, j + 1, g2n, a2n, rfl, rfl, hid (by have := HJ.out; have := HC.out; have := HLn.out; rw [k64 (by omega) (by omega)]; omega), hid (by have := HK2.out; omega), hid (by have := HJ.out; have := HC.out; omega), hid ⟨_, _, (putZ_len _ _ _).trans HLL.out, PRf.out⟩⟩
      | some i =>
       have HI : Hid (i < ((putZ L (atK x.2.1 x.2.2.1) x.2.2.2)).length) := hid (find_in (by rw [putZ_len]; exact PR.out.t2.pos) hf_)
       obtain ⟨nv, hnv_⟩ : ∃ z, valZ ((putZ L (atK x.2.1 x.2.2.1) x.2.2.2)) i = z := ⟨_, rfl⟩
       have HG : Hid ((getZ (putZ L (atK x.2.1 x.2.2.1) x.2.2.2) (atK x.2.1 x.2.2.1)) = some nv) := hid (by rw [get_some hf_, hnv_])
       have HCV : Hid ((rcells ((putZ L (atK x.2.1 x.2.2.1) x.2.2.2)))[i * 70 + 68]? = some (.int .i64 nv)) := hid (by rw [rc_val HI.out, hnv_])
       obtain ⟨fi, hfi_⟩ : ∃ z : Int, (i : Int) = z := ⟨_, rfl⟩
       have HF : Hid (fndV (putZ L (atK x.2.1 x.2.2.1) x.2.2.2) (atK x.2.1 x.2.2.1) = fi) := hid (by unfold fndV; rw [hf_]; exact hfi_)
       have HFI := hid hfi_
       have cf : decide (fi ≥ (0 : Int)) = true := decide_eq_true (by omega)
       have cf' : decide ((0 : Int) ≤ fi) = true := decide_eq_true (by omega)
       clear hf_ hnv_ hfi_
       have s1 := True.intro
       have s2 := True.intro
       go_wp2_with (first
         | ((with_reducible refine gate_d (N := 34) rfl ?_); refine ag_fix (.pointer (some (ad.add (x32.toNat * 4)))) (ex_satN _ _ x32 _ _ HVA.out HJ0.out HC.out t_us36 t_aT40.size _ _ rfl rfl rfl) rfl ?_)
         | ((with_reducible refine gate_d (N := 35) rfl ?_); refine ag_fix (.agg (en40 x).toArray) (ex_ldN t_aT40 _ _ (en40_len x) HCE.out _ rfl rfl) rfl ?_)
         | ((with_reducible refine gate_d (N := 8) rfl ?_); clear t4; obtain ⟨ga, hga⟩ : ∃ g_, wr.heap.size = g_ := ⟨_, rfl⟩; refine ag_alst t_aT40 (en40 x).toArray ga hga rfl (by intro u_ hu_; exact en_one [x] u_ (by simpa using hu_)) rfl rfl 8 rfl _ _ rfl (fun _ => rfl) (fun _ => rfl) rfl ?_; intro w4 hb_ hB_ hs_; have NFa : Hid (¬ F ga ∧ ga ≠ a2n) := hid ⟨fun h_ => by have := PR.out.lt1 ga h_; omega, by have := PR.out.lt2.2; omega⟩; have PR4 := hid (PR.out.go (by rw [hga]; exact hb_)); have BKx := hid hB_; clear hb_ hB_ hs_ hga PR HCE)
         | ((with_reducible refine gate_d (N := 36) rfl ?_); refine ag_fix (.pointer (some ⟨ga, 1, none⟩)) (ex_field 40 1 (.pointer (some ⟨ga, 0, none⟩)) (.pointer (some ⟨ga, 1, none⟩)) (t_fa40_1 ga) _ rfl rfl) rfl ?_)
         | ((with_reducible refine gate_d (N := 37) rfl ?_); refine ag_fix (.int .i64 x.2.1) (ex_get t_sT3 ga 1 (.int .i64 x.2.1) (en40 x).toArray BKx.out rfl _ rfl rfl) rfl ?_)
         | (go_at_call 25; clear t5; refine (at_calls x.2.1 x.2.2.1 _).mono ?_; rintro e_ w5 ⟨rfl, hb_⟩; have PR5 := hid (PR4.out.go hb_); have BKx5 := hid (BKx.out.below hb_ BKx.out.lt); clear hb_ PR4 BKx)
         | ((with_reducible refine gate_d (N := 9) rfl ?_); clear t6; obtain ⟨gp, hgp⟩ : ∃ g_, w5.heap.size = g_ := ⟨_, rfl⟩; refine ag_alst posT (pv (atK x.2.1 x.2.2.1).1 (atK x.2.1 x.2.2.1).2.1 (atK x.2.1 x.2.2.1).2.2.1 (atK x.2.1 x.2.2.1).2.2.2.1) gp hgp (by rw [pv_xv, xv_size, (atK_good _ _).1]; rfl) (pos_one _ _ _ _) rfl rfl 9 rfl _ _ rfl (fun _ => rfl) (fun _ => rfl) rfl ?_; intro w6 hb_ hB_ hs_; have NFp : Hid (¬ F gp ∧ gp ≠ a2n) := hid ⟨fun h_ => by have := PR5.out.lt1 gp h_; omega, by have := PR5.out.lt2.2; omega⟩; have PR6 := hid (PR5.out.go (by rw [hgp]; exact hb_)); have BKx6 := hid (BKx5.out.below hb_ (by have := BKx5.out.lt; omega)); have BKp := hid hB_; clear hb_ hB_ hs_ hgp PR5 BKx5)
         | ((with_reducible refine gate_d (N := 39) rfl ?_); refine ag_fix (.pointer (some ⟨ga, 0, none⟩)) (ex_field 40 0 (.pointer (some ⟨ga, 0, none⟩)) (.pointer (some ⟨ga, 0, none⟩)) (t_fa40_0 ga) _ rfl rfl) rfl ?_)
         | ((with_reducible refine gate_d (N := 40) rfl ?_); refine ag_fix (.int .i64 x.1) (ex_get t_sT3 ga 0 (.int .i64 x.1) (en40 x).toArray BKx6.out rfl _ rfl rfl) rfl ?_)
         | ((with_reducible refine gate_d (N := 44) rfl ?_); refine ag_fix (.agg (pv (atK x.2.1 x.2.2.1).1 (atK x.2.1 x.2.2.1).2.1 (atK x.2.1 x.2.2.1).2.2.1 (atK x.2.1 x.2.2.1).2.2.2.1)) (ex_load posT gp 0 (pv (atK x.2.1 x.2.2.1).1 (atK x.2.1 x.2.2.1).2.1 (atK x.2.1 x.2.2.1).2.2.1 (atK x.2.1 x.2.2.1).2.2.2.1) (pv (atK x.2.1 x.2.2.1).1 (atK x.2.1 x.2.2.1).2.1 (atK x.2.1 x.2.2.1).2.2.1 (atK x.2.1 x.2.2.1).2.2.2.1) BKp.out (pos_le (atK_good _ _).1) (pos_all (atK_good _ _).1) _ rfl rfl) rfl ?_)
         | ((with_reducible refine gate_d (N := 45) rfl ?_); refine ag_fix (.pointer (some ⟨ga, 2, none⟩)) (ex_field 40 2 (.pointer (some ⟨ga, 0, none⟩)) (.pointer (some ⟨ga, 2, none⟩)) (t_fa40_2 ga) _ rfl rfl) rfl ?_)
         | ((with_reducible refine gate_d (N := 46) rfl ?_); refine ag_fix (.int .i64 x.2.2.1) (ex_get t_sT3 ga 2 (.int .i64 x.2.2.1) (en40 x).toArray BKx6.out rfl _ rfl rfl) rfl ?_)
         | ((with_reducible refine gate_d (N := 47) rfl ?_); refine ag_fix (.pointer (some ⟨ga, 3, none⟩)) (ex_field 40 3 (.pointer (some ⟨ga, 0, none⟩)) (.pointer (some ⟨ga, 3, none⟩)) (t_fa40_3 ga) _ rfl rfl) rfl ?_)
         | ((with_reducible refine gate_d (N := 48) rfl ?_); refine ag_fix (.int .i64 x.2.2.2) (ex_get t_sT3 ga 3 (.int .i64 x.2.2.2) (en40 x).toArray BKx6.out rfl _ rfl rfl) rfl ?_)
         | (go_at_call 24; clear t7; refine (PR6.out.put (atK x.2.1 x.2.2.1) (atK_good _ _) x.2.2.2).mono ?_; rintro e_ w7 ⟨v_, F7, rfl, pr_, fr_⟩; have PR7 := hid pr_; have BKx7 := hid (fr_.blk BKx6.out NFa.out.1); have BKp7 := hid (fr_.blk BKp.out NFp.out.1); clear pr_ fr_ PR6 BKx6 BKp)
         | ((with_reducible refine gate_d (N := 51) rfl ?_); refine ag_fix (.agg (pv (atK x.2.1 x.2.2.1).1 (atK x.2.1 x.2.2.1).2.1 (atK x.2.1 x.2.2.1).2.2.1 (atK x.2.1 x.2.2.1).2.2.2.1)) (ex_load posT gp 0 (pv (atK x.2.1 x.2.2.1).1 (atK x.2.1 x.2.2.1).2.1 (atK x.2.1 x.2.2.1).2.2.1 (atK x.2.1 x.2.2.1).2.2.2.1) (pv (atK x.2.1 x.2.2.1).1 (atK x.2.1 x.2.2.1).2.1 (atK x.2.1 x.2.2.1).2.2.1 (atK x.2.1 x.2.2.1).2.2.2.1) BKp7.out (pos_le (atK_good _ _).1) (pos_all (atK_good _ _).1) _ rfl rfl) rfl ?_)
         | ((with_reducible refine gate_d (N := 52) rfl ?_); refine ag_fix (.pointer (some ⟨ga, 2, none⟩)) (ex_field 40 2 (.pointer (some ⟨ga, 0, none⟩)) (.pointer (some ⟨ga, 2, none⟩)) (t_fa40_2 ga) _ rfl rfl) rfl ?_)
         | ((with_reducible refine gate_d (N := 53) rfl ?_); refine ag_fix (.int .i64 x.2.2.1) (ex_get t_sT3 ga 2 (.int .i64 x.2.2.1) (en40 x).toArray BKx7.out rfl _ rfl rfl) rfl ?_)
         | ((with_reducible refine gate_d (N := 54) rfl ?_); refine ag_fix (.pointer (some ⟨ga, 3, none⟩)) (ex_field 40 3 (.pointer (some ⟨ga, 0, none⟩)) (.pointer (some ⟨ga, 3, none⟩)) (t_fa40_3 ga) _ rfl rfl) rfl ?_)
         | ((with_reducible refine gate_d (N := 55) rfl ?_); refine ag_fix (.int .i64 x.2.2.2) (ex_get t_sT3 ga 3 (.int .i64 x.2.2.2) (en40 x).toArray BKx7.out rfl _ rfl rfl) rfl ?_)
         | (go_at_call 31; clear t8; refine (PR7.out.rput (atK x.2.1 x.2.2.1) (atK_goodR _ _) x.2.2.2).mono ?_; rintro e_ w8 ⟨v_, rfl, pr_, fr_⟩; have PRs := hid pr_; have BXs := hid (fr_.blk BKx7.out NFa.out.2); have BPs := hid (fr_.blk BKp7.out NFp.out.2); clear pr_ fr_ PR7 BKx7 BKp7)
         | ((with_reducible refine gate_d (N := 65) rfl ?_); refine ag_fix (.agg (pv (atK x.2.1 x.2.2.1).1 (atK x.2.1 x.2.2.1).2.1 (atK x.2.1 x.2.2.1).2.2.1 (atK x.2.1 x.2.2.1).2.2.2.1)) (ex_load posT gp 0 (pv (atK x.2.1 x.2.2.1).1 (atK x.2.1 x.2.2.1).2.1 (atK x.2.1 x.2.2.1).2.2.1 (atK x.2.1 x.2.2.1).2.2.2.1) (pv (atK x.2.1 x.2.2.1).1 (atK x.2.1 x.2.2.1).2.1 (atK x.2.1 x.2.2.1).2.2.1 (atK x.2.1 x.2.2.1).2.2.2.1) BPs.out (pos_le (atK_good _ _).1) (pos_all (atK_good _ _).1) _ rfl rfl) rfl ?_)
         | ((with_reducible refine gate_d (N := 66) rfl ?_); refine ag_fix (.pointer (some ⟨ga, 2, none⟩)) (ex_field 40 2 (.pointer (some ⟨ga, 0, none⟩)) (.pointer (some ⟨ga, 2, none⟩)) (t_fa40_2 ga) _ rfl rfl) rfl ?_)
         | ((with_reducible refine gate_d (N := 67) rfl ?_); refine ag_fix (.int .i64 x.2.2.1) (ex_get t_sT3 ga 2 (.int .i64 x.2.2.1) (en40 x).toArray BXs.out rfl _ rfl rfl) rfl ?_)
         | (go_at_call 28; clear s1; refine (PRs.out.get (atK x.2.1 x.2.2.1) (atK_good _ _)).mono ?_; rintro e_ wg ⟨rfl, hb_⟩; rw [HG.out]; have PRg := hid (PRs.out.go hb_); have BXg := hid (BXs.out.below hb_ BXs.out.lt); have BPg := hid (BPs.out.below hb_ BPs.out.lt); clear hb_ PRs BXs BPs)
         | ((with_reducible refine gate_d (N := 72) rfl ?_); refine ag_fix (.agg (pv (atK x.2.1 x.2.2.1).1 (atK x.2.1 x.2.2.1).2.1 (atK x.2.1 x.2.2.1).2.2.1 (atK x.2.1 x.2.2.1).2.2.2.1)) (ex_load posT gp 0 (pv (atK x.2.1 x.2.2.1).1 (atK x.2.1 x.2.2.1).2.1 (atK x.2.1 x.2.2.1).2.2.1 (atK x.2.1 x.2.2.1).2.2.2.1) (pv (atK x.2.1 x.2.2.1).1 (atK x.2.1 x.2.2.1).2.1 (atK x.2.1 x.2.2.1).2.2.1 (atK x.2.1 x.2.2.1).2.2.2.1) BPg.out (pos_le (atK_good _ _).1) (pos_all (atK_good _ _).1) _ rfl rfl) rfl ?_)
         | ((with_reducible refine gate_d (N := 73) rfl ?_); refine ag_fix (.pointer (some ⟨ga, 2, none⟩)) (ex_field 40 2 (.pointer (some ⟨ga, 0, none⟩)) (.pointer (some ⟨ga, 2, none⟩)) (t_fa40_2 ga) _ rfl rfl) rfl ?_)
         | ((with_reducible refine gate_d (N := 74) rfl ?_); refine ag_fix (.int .i64 x.2.2.1) (ex_get t_sT3 ga 2 (.int .i64 x.2.2.1) (en40 x).toArray BXg.out rfl _ rfl rfl) rfl ?_)
         | (go_at_call 32; clear s2; refine (rfind_calls PRg.out.t2 (atK x.2.1 x.2.2.1) (atK_goodR _ _)).mono ?_; rintro e_ wf ⟨rfl, hb_⟩; rw [HF.out]; have PRf := hid (PRg.out.go hb_); clear hb_ PRg BXg BPg)
         | ((with_reducible refine gate_d (N := 86) rfl ?_); refine ag_fix (.pointer (some ⟨g2n, 0, none⟩)) (ex_field 59 0 (.pointer (some ⟨g2n, 0, none⟩)) (.pointer (some ⟨g2n, 0, none⟩)) (t_fa59_0 g2n) _ rfl rfl) rfl ?_)
         | ((with_reducible refine gate_d (N := 87) rfl ?_); refine ag_fix (.slice (some ⟨a2n, 0, none⟩) ((putZ L (atK x.2.1 x.2.2.1) x.2.2.2)).length ((putZ L (atK x.2.1 x.2.2.1) x.2.2.2)).length) (ex_get t_sT57 g2n 0 (.slice (some ⟨a2n, 0, none⟩) ((putZ L (atK x.2.1 x.2.2.1) x.2.2.2)).length ((putZ L (atK x.2.1 x.2.2.1) x.2.2.2)).length) #[.slice (some ⟨a2n, 0, none⟩) ((putZ L (atK x.2.1 x.2.2.1) x.2.2.2)).length ((putZ L (atK x.2.1 x.2.2.1) x.2.2.2)).length] PRf.out.t2.tab rfl _ rfl rfl) rfl ?_)
         | ((with_reducible refine gate_d (N := 89) rfl ?_); refine ag_fix (.pointer (some ⟨a2n, i * 70, none⟩)) (ex_satR a2n _ _ fi i HFI.out.symm HI.out _ _ rfl rfl rfl) rfl ?_)
         | ((with_reducible refine gate_d (N := 90) rfl ?_); refine ag_fix (.pointer (some ⟨a2n, i * 70 + 68, none⟩)) (ex_field 62 2 (.pointer (some ⟨a2n, i * 70, none⟩)) (.pointer (some ⟨a2n, i * 70 + 68, none⟩)) (t_fa62_2 a2n (i * 70)) _ rfl rfl) rfl ?_)
         | ((with_reducible refine gate_d (N := 91) rfl ?_); refine ag_fix (.int .i64 nv) (ex_get t_sT3 a2n (i * 70 + 68) (.int .i64 nv) (rcells ((putZ L (atK x.2.1 x.2.2.1) x.2.2.2))) PRf.out.t2.row HCV.out _ rfl rfl) rfl ?_))
       (try simp only [Act.put, sI, sZ, sS])
       go_roundg K1
       case measure => omega
       case rel => exact ⟨_, j + 1, g2n, a2n, rfl, rfl, hid (by have := HJ.out; have := HC.out; have := HLn.out; rw [k64 (by omega) (by omega)]; omega), hid (by have := HK2.out; omega), hid (by have := HJ.out; have := HC.out; omega), hid ⟨_, _, (putZ_len _ _ _).trans HLL.out, PRf.out⟩⟩
     ·
      have cq0 : (x.1 == (0 : Int)) = false := beq_eq_false_iff_ne.mpr q0
      by_cases q2 : x.1 = 2
      ·
       have cq2 : (x.1 == (2 : Int)) = true := beq_iff_eq.mpr q2
       clear q0 q2
       have t7 := True.intro
       have t8 := True.intro
       cases hf_ : findZ_ (emptyZ (placesZ a0)) (atK x.2.1 x.2.2.1) with
       | none =>
        have HG : Hid ((getZ (emptyZ (placesZ a0)) (atK x.2.1 x.2.2.1)) = none) := hid (get_none hf_)
        have HF : Hid (fndV (emptyZ (placesZ a0)) (atK x.2.1 x.2.2.1) = -1) := hid (by unfold fndV; rw [hf_])
        clear hf_
        have s1 := True.intro
        have s2 := True.intro
        go_wp2_with (first
          | ((with_reducible refine gate_d (N := 34) rfl ?_); refine ag_fix (.pointer (some (ad.add (x32.toNat * 4)))) (ex_satN _ _ x32 _ _ HVA.out HJ0.out HC.out t_us36 t_aT40.size _ _ rfl rfl rfl) rfl ?_)
          | ((with_reducible refine gate_d (N := 35) rfl ?_); refine ag_fix (.agg (en40 x).toArray) (ex_ldN t_aT40 _ _ (en40_len x) HCE.out _ rfl rfl) rfl ?_)
          | ((with_reducible refine gate_d (N := 8) rfl ?_); clear t4; obtain ⟨ga, hga⟩ : ∃ g_, wr.heap.size = g_ := ⟨_, rfl⟩; refine ag_alst t_aT40 (en40 x).toArray ga hga rfl (by intro u_ hu_; exact en_one [x] u_ (by simpa using hu_)) rfl rfl 8 rfl _ _ rfl (fun _ => rfl) (fun _ => rfl) rfl ?_; intro w4 hb_ hB_ hs_; have NFa : Hid (¬ F ga ∧ ga ≠ a2n) := hid ⟨fun h_ => by have := PR.out.lt1 ga h_; omega, by have := PR.out.lt2.2; omega⟩; have PR4 := hid (PR.out.go (by rw [hga]; exact hb_)); have BKx := hid hB_; clear hb_ hB_ hs_ hga PR HCE)
          | ((with_reducible refine gate_d (N := 36) rfl ?_); refine ag_fix (.pointer (some ⟨ga, 1, none⟩)) (ex_field 40 1 (.pointer (some ⟨ga, 0, none⟩)) (.pointer (some ⟨ga, 1, none⟩)) (t_fa40_1 ga) _ rfl rfl) rfl ?_)
          | ((with_reducible refine gate_d (N := 37) rfl ?_); refine ag_fix (.int .i64 x.2.1) (ex_get t_sT3 ga 1 (.int .i64 x.2.1) (en40 x).toArray BKx.out rfl _ rfl rfl) rfl ?_)
          | (go_at_call 25; clear t5; refine (at_calls x.2.1 x.2.2.1 _).mono ?_; rintro e_ w5 ⟨rfl, hb_⟩; have PR5 := hid (PR4.out.go hb_); have BKx5 := hid (BKx.out.below hb_ BKx.out.lt); clear hb_ PR4 BKx)
          | ((with_reducible refine gate_d (N := 9) rfl ?_); clear t6; obtain ⟨gp, hgp⟩ : ∃ g_, w5.heap.size = g_ := ⟨_, rfl⟩; refine ag_alst posT (pv (atK x.2.1 x.2.2.1).1 (atK x.2.1 x.2.2.1).2.1 (atK x.2.1 x.2.2.1).2.2.1 (atK x.2.1 x.2.2.1).2.2.2.1) gp hgp (by rw [pv_xv, xv_size, (atK_good _ _).1]; rfl) (pos_one _ _ _ _) rfl rfl 9 rfl _ _ rfl (fun _ => rfl) (fun _ => rfl) rfl ?_; intro w6 hb_ hB_ hs_; have NFp : Hid (¬ F gp ∧ gp ≠ a2n) := hid ⟨fun h_ => by have := PR5.out.lt1 gp h_; omega, by have := PR5.out.lt2.2; omega⟩; have PR6 := hid (PR5.out.go (by rw [hgp]; exact hb_)); have BKx6 := hid (BKx5.out.below hb_ (by have := BKx5.out.lt; omega)); have BKp := hid hB_; clear hb_ hB_ hs_ hgp PR5 BKx5)
          | ((with_reducible refine gate_d (N := 39) rfl ?_); refine ag_fix (.pointer (some ⟨ga, 0, none⟩)) (ex_field 40 0 (.pointer (some ⟨ga, 0, none⟩)) (.pointer (some ⟨ga, 0, none⟩)) (t_fa40_0 ga) _ rfl rfl) rfl ?_)
          | ((with_reducible refine gate_d (N := 40) rfl ?_); refine ag_fix (.int .i64 x.1) (ex_get t_sT3 ga 0 (.int .i64 x.1) (en40 x).toArray BKx6.out rfl _ rfl rfl) rfl ?_)
          | (go_at_call 26; clear t7; refine (PR6.out.clear).mono ?_; rintro e_ w7 ⟨v_, rfl, pr_, fr_⟩; have PR7 := hid pr_; have BKx7 := hid (fr_.blk BKx6.out NFa.out.1); have BKp7 := hid (fr_.blk BKp.out NFp.out.1); clear pr_ fr_ PR6 BKx6 BKp)
          | (go_at_call 30; clear t8; refine (rnew_calls _ a0).mono ?_; rintro e_ w8 ⟨g3, a3, rfl, tb_, hg_, ha_, hb_⟩; have PRs : Hid (Pr w w8 F (emptyZ (placesZ a0)) (emptyZ (placesZ a0)) g a g3 a3) := hid (by have h_ := PR7.out.fresh tb_ hg_ ha_ hb_; rw [HLL.out] at h_; exact h_); have BXs := hid (BKx7.out.below hb_ BKx7.out.lt); have BPs := hid (BKp7.out.below hb_ BKp7.out.lt); clear tb_ hg_ ha_ hb_ PR7 BKx7 BKp7)
          | ((with_reducible refine gate_d (N := 65) rfl ?_); refine ag_fix (.agg (pv (atK x.2.1 x.2.2.1).1 (atK x.2.1 x.2.2.1).2.1 (atK x.2.1 x.2.2.1).2.2.1 (atK x.2.1 x.2.2.1).2.2.2.1)) (ex_load posT gp 0 (pv (atK x.2.1 x.2.2.1).1 (atK x.2.1 x.2.2.1).2.1 (atK x.2.1 x.2.2.1).2.2.1 (atK x.2.1 x.2.2.1).2.2.2.1) (pv (atK x.2.1 x.2.2.1).1 (atK x.2.1 x.2.2.1).2.1 (atK x.2.1 x.2.2.1).2.2.1 (atK x.2.1 x.2.2.1).2.2.2.1) BPs.out (pos_le (atK_good _ _).1) (pos_all (atK_good _ _).1) _ rfl rfl) rfl ?_)
          | ((with_reducible refine gate_d (N := 66) rfl ?_); refine ag_fix (.pointer (some ⟨ga, 2, none⟩)) (ex_field 40 2 (.pointer (some ⟨ga, 0, none⟩)) (.pointer (some ⟨ga, 2, none⟩)) (t_fa40_2 ga) _ rfl rfl) rfl ?_)
          | ((with_reducible refine gate_d (N := 67) rfl ?_); refine ag_fix (.int .i64 x.2.2.1) (ex_get t_sT3 ga 2 (.int .i64 x.2.2.1) (en40 x).toArray BXs.out rfl _ rfl rfl) rfl ?_)
          | (go_at_call 28; clear s1; refine (PRs.out.get (atK x.2.1 x.2.2.1) (atK_good _ _)).mono ?_; rintro e_ wg ⟨rfl, hb_⟩; rw [HG.out]; have PRg := hid (PRs.out.go hb_); have BXg := hid (BXs.out.below hb_ BXs.out.lt); have BPg := hid (BPs.out.below hb_ BPs.out.lt); clear hb_ PRs BXs BPs)
          | ((with_reducible refine gate_d (N := 72) rfl ?_); refine ag_fix (.agg (pv (atK x.2.1 x.2.2.1).1 (atK x.2.1 x.2.2.1).2.1 (atK x.2.1 x.2.2.1).2.2.1 (atK x.2.1 x.2.2.1).2.2.2.1)) (ex_load posT gp 0 (pv (atK x.2.1 x.2.2.1).1 (atK x.2.1 x.2.2.1).2.1 (atK x.2.1 x.2.2.1).2.2.1 (atK x.2.1 x.2.2.1).2.2.2.1) (pv (atK x.2.1 x.2.2.1).1 (atK x.2.1 x.2.2.1).2.1 (atK x.2.1 x.2.2.1).2.2.1 (atK x.2.1 x.2.2.1).2.2.2.1) BPg.out (pos_le (atK_good _ _).1) (pos_all (atK_good _ _).1) _ rfl rfl) rfl ?_)
          | ((with_reducible refine gate_d (N := 73) rfl ?_); refine ag_fix (.pointer (some ⟨ga, 2, none⟩)) (ex_field 40 2 (.pointer (some ⟨ga, 0, none⟩)) (.pointer (some ⟨ga, 2, none⟩)) (t_fa40_2 ga) _ rfl rfl) rfl ?_)
          | ((with_reducible refine gate_d (N := 74) rfl ?_); refine ag_fix (.int .i64 x.2.2.1) (ex_get t_sT3 ga 2 (.int .i64 x.2.2.1) (en40 x).toArray BXg.out rfl _ rfl rfl) rfl ?_)
          | (go_at_call 32; clear s2; refine (rfind_calls PRg.out.t2 (atK x.2.1 x.2.2.1) (atK_goodR _ _)).mono ?_; rintro e_ wf ⟨rfl, hb_⟩; rw [HF.out]; have PRf := hid (PRg.out.go hb_); clear hb_ PRg BXg BPg))
        (try simp only [Act.put, sI, sZ, sS])
        go_roundg K1
        case measure => omega
        case rel => exact ⟨_, j + 1, g3, a3, rfl, rfl, hid (by have := HJ.out; have := HC.out; have := HLn.out; rw [k64 (by omega) (by omega)]; omega), hid (by have := HK2.out; omega), hid (by have := HJ.out; have := HC.out; omega), hid ⟨_, _, emptyZ_len _, PRf.out⟩⟩
       | some i =>
        have HI : Hid (i < ((emptyZ (placesZ a0))).length) := hid (find_in (by rw [emptyZ_len, ← HLL.out]; exact PR.out.t2.pos) hf_)
        obtain ⟨nv, hnv_⟩ : ∃ z, valZ ((emptyZ (placesZ a0))) i = z := ⟨_, rfl⟩
        have HG : Hid ((getZ (emptyZ (placesZ a0)) (atK x.2.1 x.2.2.1)) = some nv) := hid (by rw [get_some hf_, hnv_])
        have HCV : Hid ((rcells ((emptyZ (placesZ a0))))[i * 70 + 68]? = some (.int .i64 nv)) := hid (by rw [rc_val HI.out, hnv_])
        obtain ⟨fi, hfi_⟩ : ∃ z : Int, (i : Int) = z := ⟨_, rfl⟩
        have HF : Hid (fndV (emptyZ (placesZ a0)) (atK x.2.1 x.2.2.1) = fi) := hid (by unfold fndV; rw [hf_]; exact hfi_)
        have HFI := hid hfi_
        have cf : decide (fi ≥ (0 : Int)) = true := decide_eq_true (by omega)
        have cf' : decide ((0 : Int) ≤ fi) = true := decide_eq_true (by omega)
        clear hf_ hnv_ hfi_
        have s1 := True.intro
        have s2 := True.intro
        go_wp2_with (first
          | ((with_reducible refine gate_d (N := 34) rfl ?_); refine ag_fix (.pointer (some (ad.add (x32.toNat * 4)))) (ex_satN _ _ x32 _ _ HVA.out HJ0.out HC.out t_us36 t_aT40.size _ _ rfl rfl rfl) rfl ?_)
          | ((with_reducible refine gate_d (N := 35) rfl ?_); refine ag_fix (.agg (en40 x).toArray) (ex_ldN t_aT40 _ _ (en40_len x) HCE.out _ rfl rfl) rfl ?_)
          | ((with_reducible refine gate_d (N := 8) rfl ?_); clear t4; obtain ⟨ga, hga⟩ : ∃ g_, wr.heap.size = g_ := ⟨_, rfl⟩; refine ag_alst t_aT40 (en40 x).toArray ga hga rfl (by intro u_ hu_; exact en_one [x] u_ (by simpa using hu_)) rfl rfl 8 rfl _ _ rfl (fun _ => rfl) (fun _ => rfl) rfl ?_; intro w4 hb_ hB_ hs_; have NFa : Hid (¬ F ga ∧ ga ≠ a2n) := hid ⟨fun h_ => by have := PR.out.lt1 ga h_; omega, by have := PR.out.lt2.2; omega⟩; have PR4 := hid (PR.out.go (by rw [hga]; exact hb_)); have BKx := hid hB_; clear hb_ hB_ hs_ hga PR HCE)
          | ((with_reducible refine gate_d (N := 36) rfl ?_); refine ag_fix (.pointer (some ⟨ga, 1, none⟩)) (ex_field 40 1 (.pointer (some ⟨ga, 0, none⟩)) (.pointer (some ⟨ga, 1, none⟩)) (t_fa40_1 ga) _ rfl rfl) rfl ?_)
          | ((with_reducible refine gate_d (N := 37) rfl ?_); refine ag_fix (.int .i64 x.2.1) (ex_get t_sT3 ga 1 (.int .i64 x.2.1) (en40 x).toArray BKx.out rfl _ rfl rfl) rfl ?_)
          | (go_at_call 25; clear t5; refine (at_calls x.2.1 x.2.2.1 _).mono ?_; rintro e_ w5 ⟨rfl, hb_⟩; have PR5 := hid (PR4.out.go hb_); have BKx5 := hid (BKx.out.below hb_ BKx.out.lt); clear hb_ PR4 BKx)
          | ((with_reducible refine gate_d (N := 9) rfl ?_); clear t6; obtain ⟨gp, hgp⟩ : ∃ g_, w5.heap.size = g_ := ⟨_, rfl⟩; refine ag_alst posT (pv (atK x.2.1 x.2.2.1).1 (atK x.2.1 x.2.2.1).2.1 (atK x.2.1 x.2.2.1).2.2.1 (atK x.2.1 x.2.2.1).2.2.2.1) gp hgp (by rw [pv_xv, xv_size, (atK_good _ _).1]; rfl) (pos_one _ _ _ _) rfl rfl 9 rfl _ _ rfl (fun _ => rfl) (fun _ => rfl) rfl ?_; intro w6 hb_ hB_ hs_; have NFp : Hid (¬ F gp ∧ gp ≠ a2n) := hid ⟨fun h_ => by have := PR5.out.lt1 gp h_; omega, by have := PR5.out.lt2.2; omega⟩; have PR6 := hid (PR5.out.go (by rw [hgp]; exact hb_)); have BKx6 := hid (BKx5.out.below hb_ (by have := BKx5.out.lt; omega)); have BKp := hid hB_; clear hb_ hB_ hs_ hgp PR5 BKx5)
          | ((with_reducible refine gate_d (N := 39) rfl ?_); refine ag_fix (.pointer (some ⟨ga, 0, none⟩)) (ex_field 40 0 (.pointer (some ⟨ga, 0, none⟩)) (.pointer (some ⟨ga, 0, none⟩)) (t_fa40_0 ga) _ rfl rfl) rfl ?_)
          | ((with_reducible refine gate_d (N := 40) rfl ?_); refine ag_fix (.int .i64 x.1) (ex_get t_sT3 ga 0 (.int .i64 x.1) (en40 x).toArray BKx6.out rfl _ rfl rfl) rfl ?_)
          | (go_at_call 26; clear t7; refine (PR6.out.clear).mono ?_; rintro e_ w7 ⟨v_, rfl, pr_, fr_⟩; have PR7 := hid pr_; have BKx7 := hid (fr_.blk BKx6.out NFa.out.1); have BKp7 := hid (fr_.blk BKp.out NFp.out.1); clear pr_ fr_ PR6 BKx6 BKp)
          | (go_at_call 30; clear t8; refine (rnew_calls _ a0).mono ?_; rintro e_ w8 ⟨g3, a3, rfl, tb_, hg_, ha_, hb_⟩; have PRs : Hid (Pr w w8 F (emptyZ (placesZ a0)) (emptyZ (placesZ a0)) g a g3 a3) := hid (by have h_ := PR7.out.fresh tb_ hg_ ha_ hb_; rw [HLL.out] at h_; exact h_); have BXs := hid (BKx7.out.below hb_ BKx7.out.lt); have BPs := hid (BKp7.out.below hb_ BKp7.out.lt); clear tb_ hg_ ha_ hb_ PR7 BKx7 BKp7)
          | ((with_reducible refine gate_d (N := 65) rfl ?_); refine ag_fix (.agg (pv (atK x.2.1 x.2.2.1).1 (atK x.2.1 x.2.2.1).2.1 (atK x.2.1 x.2.2.1).2.2.1 (atK x.2.1 x.2.2.1).2.2.2.1)) (ex_load posT gp 0 (pv (atK x.2.1 x.2.2.1).1 (atK x.2.1 x.2.2.1).2.1 (atK x.2.1 x.2.2.1).2.2.1 (atK x.2.1 x.2.2.1).2.2.2.1) (pv (atK x.2.1 x.2.2.1).1 (atK x.2.1 x.2.2.1).2.1 (atK x.2.1 x.2.2.1).2.2.1 (atK x.2.1 x.2.2.1).2.2.2.1) BPs.out (pos_le (atK_good _ _).1) (pos_all (atK_good _ _).1) _ rfl rfl) rfl ?_)
          | ((with_reducible refine gate_d (N := 66) rfl ?_); refine ag_fix (.pointer (some ⟨ga, 2, none⟩)) (ex_field 40 2 (.pointer (some ⟨ga, 0, none⟩)) (.pointer (some ⟨ga, 2, none⟩)) (t_fa40_2 ga) _ rfl rfl) rfl ?_)
          | ((with_reducible refine gate_d (N := 67) rfl ?_); refine ag_fix (.int .i64 x.2.2.1) (ex_get t_sT3 ga 2 (.int .i64 x.2.2.1) (en40 x).toArray BXs.out rfl _ rfl rfl) rfl ?_)
          | (go_at_call 28; clear s1; refine (PRs.out.get (atK x.2.1 x.2.2.1) (atK_good _ _)).mono ?_; rintro e_ wg ⟨rfl, hb_⟩; rw [HG.out]; have PRg := hid (PRs.out.go hb_); have BXg := hid (BXs.out.below hb_ BXs.out.lt); have BPg := hid (BPs.out.below hb_ BPs.out.lt); clear hb_ PRs BXs BPs)
          | ((with_reducible refine gate_d (N := 72) rfl ?_); refine ag_fix (.agg (pv (atK x.2.1 x.2.2.1).1 (atK x.2.1 x.2.2.1).2.1 (atK x.2.1 x.2.2.1).2.2.1 (atK x.2.1 x.2.2.1).2.2.2.1)) (ex_load posT gp 0 (pv (atK x.2.1 x.2.2.1).1 (atK x.2.1 x.2.2.1).2.1 (atK x.2.1 x.2.2.1).2.2.1 (atK x.2.1 x.2.2.1).2.2.2.1) (pv (atK x.2.1 x.2.2.1).1 (atK x.2.1 x.2.2.1).2.1 (atK x.2.1 x.2.2.1).2.2.1 (atK x.2.1 x.2.2.1).2.2.2.1) BPg.out (pos_le (atK_good _ _).1) (pos_all (atK_good _ _).1) _ rfl rfl) rfl ?_)
          | ((with_reducible refine gate_d (N := 73) rfl ?_); refine ag_fix (.pointer (some ⟨ga, 2, none⟩)) (ex_field 40 2 (.pointer (some ⟨ga, 0, none⟩)) (.pointer (some ⟨ga, 2, none⟩)) (t_fa40_2 ga) _ rfl rfl) rfl ?_)
          | ((with_reducible refine gate_d (N := 74) rfl ?_); refine ag_fix (.int .i64 x.2.2.1) (ex_get t_sT3 ga 2 (.int .i64 x.2.2.1) (en40 x).toArray BXg.out rfl _ rfl rfl) rfl ?_)
          | (go_at_call 32; clear s2; refine (rfind_calls PRg.out.t2 (atK x.2.1 x.2.2.1) (atK_goodR _ _)).mono ?_; rintro e_ wf ⟨rfl, hb_⟩; rw [HF.out]; have PRf := hid (PRg.out.go hb_); clear hb_ PRg BXg BPg)
          | ((with_reducible refine gate_d (N := 86) rfl ?_); refine ag_fix (.pointer (some ⟨g3, 0, none⟩)) (ex_field 59 0 (.pointer (some ⟨g3, 0, none⟩)) (.pointer (some ⟨g3, 0, none⟩)) (t_fa59_0 g3) _ rfl rfl) rfl ?_)
          | ((with_reducible refine gate_d (N := 87) rfl ?_); refine ag_fix (.slice (some ⟨a3, 0, none⟩) ((emptyZ (placesZ a0))).length ((emptyZ (placesZ a0))).length) (ex_get t_sT57 g3 0 (.slice (some ⟨a3, 0, none⟩) ((emptyZ (placesZ a0))).length ((emptyZ (placesZ a0))).length) #[.slice (some ⟨a3, 0, none⟩) ((emptyZ (placesZ a0))).length ((emptyZ (placesZ a0))).length] PRf.out.t2.tab rfl _ rfl rfl) rfl ?_)
          | ((with_reducible refine gate_d (N := 89) rfl ?_); refine ag_fix (.pointer (some ⟨a3, i * 70, none⟩)) (ex_satR a3 _ _ fi i HFI.out.symm HI.out _ _ rfl rfl rfl) rfl ?_)
          | ((with_reducible refine gate_d (N := 90) rfl ?_); refine ag_fix (.pointer (some ⟨a3, i * 70 + 68, none⟩)) (ex_field 62 2 (.pointer (some ⟨a3, i * 70, none⟩)) (.pointer (some ⟨a3, i * 70 + 68, none⟩)) (t_fa62_2 a3 (i * 70)) _ rfl rfl) rfl ?_)
          | ((with_reducible refine gate_d (N := 91) rfl ?_); refine ag_fix (.int .i64 nv) (ex_get t_sT3 a3 (i * 70 + 68) (.int .i64 nv) (rcells ((emptyZ (placesZ a0)))) PRf.out.t2.row HCV.out _ rfl rfl) rfl ?_))
        (try simp only [Act.put, sI, sZ, sS])
        go_roundg K1
        case measure => omega
        case rel => exact ⟨_, j + 1, g3, a3, rfl, rfl, hid (by have := HJ.out; have := HC.out; have := HLn.out; rw [k64 (by omega) (by omega)]; omega), hid (by have := HK2.out; omega), hid (by have := HJ.out; have := HC.out; omega), hid ⟨_, _, emptyZ_len _, PRf.out⟩⟩
      ·
       have cq2 : (x.1 == (2 : Int)) = false := beq_eq_false_iff_ne.mpr q2
       clear q0 q2
       have t7 := True.intro
       have t8 := True.intro
       cases hf_ : findZ_ L (atK x.2.1 x.2.2.1) with
       | none =>
        have HG : Hid ((getZ L (atK x.2.1 x.2.2.1)) = none) := hid (get_none hf_)
        have HF : Hid (fndV L (atK x.2.1 x.2.2.1) = -1) := hid (by unfold fndV; rw [hf_])
        clear hf_
        have s1 := True.intro
        have s2 := True.intro
        go_wp2_with (first
          | ((with_reducible refine gate_d (N := 34) rfl ?_); refine ag_fix (.pointer (some (ad.add (x32.toNat * 4)))) (ex_satN _ _ x32 _ _ HVA.out HJ0.out HC.out t_us36 t_aT40.size _ _ rfl rfl rfl) rfl ?_)
          | ((with_reducible refine gate_d (N := 35) rfl ?_); refine ag_fix (.agg (en40 x).toArray) (ex_ldN t_aT40 _ _ (en40_len x) HCE.out _ rfl rfl) rfl ?_)
          | ((with_reducible refine gate_d (N := 8) rfl ?_); clear t4; obtain ⟨ga, hga⟩ : ∃ g_, wr.heap.size = g_ := ⟨_, rfl⟩; refine ag_alst t_aT40 (en40 x).toArray ga hga rfl (by intro u_ hu_; exact en_one [x] u_ (by simpa using hu_)) rfl rfl 8 rfl _ _ rfl (fun _ => rfl) (fun _ => rfl) rfl ?_; intro w4 hb_ hB_ hs_; have NFa : Hid (¬ F ga ∧ ga ≠ a2n) := hid ⟨fun h_ => by have := PR.out.lt1 ga h_; omega, by have := PR.out.lt2.2; omega⟩; have PR4 := hid (PR.out.go (by rw [hga]; exact hb_)); have BKx := hid hB_; clear hb_ hB_ hs_ hga PR HCE)
          | ((with_reducible refine gate_d (N := 36) rfl ?_); refine ag_fix (.pointer (some ⟨ga, 1, none⟩)) (ex_field 40 1 (.pointer (some ⟨ga, 0, none⟩)) (.pointer (some ⟨ga, 1, none⟩)) (t_fa40_1 ga) _ rfl rfl) rfl ?_)
          | ((with_reducible refine gate_d (N := 37) rfl ?_); refine ag_fix (.int .i64 x.2.1) (ex_get t_sT3 ga 1 (.int .i64 x.2.1) (en40 x).toArray BKx.out rfl _ rfl rfl) rfl ?_)
          | (go_at_call 25; clear t5; refine (at_calls x.2.1 x.2.2.1 _).mono ?_; rintro e_ w5 ⟨rfl, hb_⟩; have PR5 := hid (PR4.out.go hb_); have BKx5 := hid (BKx.out.below hb_ BKx.out.lt); clear hb_ PR4 BKx)
          | ((with_reducible refine gate_d (N := 9) rfl ?_); clear t6; obtain ⟨gp, hgp⟩ : ∃ g_, w5.heap.size = g_ := ⟨_, rfl⟩; refine ag_alst posT (pv (atK x.2.1 x.2.2.1).1 (atK x.2.1 x.2.2.1).2.1 (atK x.2.1 x.2.2.1).2.2.1 (atK x.2.1 x.2.2.1).2.2.2.1) gp hgp (by rw [pv_xv, xv_size, (atK_good _ _).1]; rfl) (pos_one _ _ _ _) rfl rfl 9 rfl _ _ rfl (fun _ => rfl) (fun _ => rfl) rfl ?_; intro w6 hb_ hB_ hs_; have NFp : Hid (¬ F gp ∧ gp ≠ a2n) := hid ⟨fun h_ => by have := PR5.out.lt1 gp h_; omega, by have := PR5.out.lt2.2; omega⟩; have PR6 := hid (PR5.out.go (by rw [hgp]; exact hb_)); have BKx6 := hid (BKx5.out.below hb_ (by have := BKx5.out.lt; omega)); have BKp := hid hB_; clear hb_ hB_ hs_ hgp PR5 BKx5)
          | ((with_reducible refine gate_d (N := 39) rfl ?_); refine ag_fix (.pointer (some ⟨ga, 0, none⟩)) (ex_field 40 0 (.pointer (some ⟨ga, 0, none⟩)) (.pointer (some ⟨ga, 0, none⟩)) (t_fa40_0 ga) _ rfl rfl) rfl ?_)
          | ((with_reducible refine gate_d (N := 40) rfl ?_); refine ag_fix (.int .i64 x.1) (ex_get t_sT3 ga 0 (.int .i64 x.1) (en40 x).toArray BKx6.out rfl _ rfl rfl) rfl ?_)
          | ((with_reducible refine gate_d (N := 65) rfl ?_); refine ag_fix (.agg (pv (atK x.2.1 x.2.2.1).1 (atK x.2.1 x.2.2.1).2.1 (atK x.2.1 x.2.2.1).2.2.1 (atK x.2.1 x.2.2.1).2.2.2.1)) (ex_load posT gp 0 (pv (atK x.2.1 x.2.2.1).1 (atK x.2.1 x.2.2.1).2.1 (atK x.2.1 x.2.2.1).2.2.1 (atK x.2.1 x.2.2.1).2.2.2.1) (pv (atK x.2.1 x.2.2.1).1 (atK x.2.1 x.2.2.1).2.1 (atK x.2.1 x.2.2.1).2.2.1 (atK x.2.1 x.2.2.1).2.2.2.1) BKp.out (pos_le (atK_good _ _).1) (pos_all (atK_good _ _).1) _ rfl rfl) rfl ?_)
          | ((with_reducible refine gate_d (N := 66) rfl ?_); refine ag_fix (.pointer (some ⟨ga, 2, none⟩)) (ex_field 40 2 (.pointer (some ⟨ga, 0, none⟩)) (.pointer (some ⟨ga, 2, none⟩)) (t_fa40_2 ga) _ rfl rfl) rfl ?_)
          | ((with_reducible refine gate_d (N := 67) rfl ?_); refine ag_fix (.int .i64 x.2.2.1) (ex_get t_sT3 ga 2 (.int .i64 x.2.2.1) (en40 x).toArray BKx6.out rfl _ rfl rfl) rfl ?_)
          | (go_at_call 28; clear s1; refine (PR6.out.get (atK x.2.1 x.2.2.1) (atK_good _ _)).mono ?_; rintro e_ wg ⟨rfl, hb_⟩; rw [HG.out]; have PRg := hid (PR6.out.go hb_); have BXg := hid (BKx6.out.below hb_ BKx6.out.lt); have BPg := hid (BKp.out.below hb_ BKp.out.lt); clear hb_ PR6 BKx6 BKp)
          | ((with_reducible refine gate_d (N := 72) rfl ?_); refine ag_fix (.agg (pv (atK x.2.1 x.2.2.1).1 (atK x.2.1 x.2.2.1).2.1 (atK x.2.1 x.2.2.1).2.2.1 (atK x.2.1 x.2.2.1).2.2.2.1)) (ex_load posT gp 0 (pv (atK x.2.1 x.2.2.1).1 (atK x.2.1 x.2.2.1).2.1 (atK x.2.1 x.2.2.1).2.2.1 (atK x.2.1 x.2.2.1).2.2.2.1) (pv (atK x.2.1 x.2.2.1).1 (atK x.2.1 x.2.2.1).2.1 (atK x.2.1 x.2.2.1).2.2.1 (atK x.2.1 x.2.2.1).2.2.2.1) BPg.out (pos_le (atK_good _ _).1) (pos_all (atK_good _ _).1) _ rfl rfl) rfl ?_)
          | ((with_reducible refine gate_d (N := 73) rfl ?_); refine ag_fix (.pointer (some ⟨ga, 2, none⟩)) (ex_field 40 2 (.pointer (some ⟨ga, 0, none⟩)) (.pointer (some ⟨ga, 2, none⟩)) (t_fa40_2 ga) _ rfl rfl) rfl ?_)
          | ((with_reducible refine gate_d (N := 74) rfl ?_); refine ag_fix (.int .i64 x.2.2.1) (ex_get t_sT3 ga 2 (.int .i64 x.2.2.1) (en40 x).toArray BXg.out rfl _ rfl rfl) rfl ?_)
          | (go_at_call 32; clear s2; refine (rfind_calls PRg.out.t2 (atK x.2.1 x.2.2.1) (atK_goodR _ _)).mono ?_; rintro e_ wf ⟨rfl, hb_⟩; rw [HF.out]; have PRf := hid (PRg.out.go hb_); clear hb_ PRg BXg BPg))
        (try simp only [Act.put, sI, sZ, sS])
        go_roundg K1
        case measure => omega
        case rel => exact ⟨_, j + 1, g2n, a2n, rfl, rfl, hid (by have := HJ.out; have := HC.out; have := HLn.out; rw [k64 (by omega) (by omega)]; omega), hid (by have := HK2.out; omega), hid (by have := HJ.out; have := HC.out; omega), hid ⟨_, _, HLL.out, PRf.out⟩⟩
       | some i =>
        have HI : Hid (i < (L).length) := hid (find_in PR.out.t2.pos hf_)
        obtain ⟨nv, hnv_⟩ : ∃ z, valZ (L) i = z := ⟨_, rfl⟩
        have HG : Hid ((getZ L (atK x.2.1 x.2.2.1)) = some nv) := hid (by rw [get_some hf_, hnv_])
        have HCV : Hid ((rcells (L))[i * 70 + 68]? = some (.int .i64 nv)) := hid (by rw [rc_val HI.out, hnv_])
        obtain ⟨fi, hfi_⟩ : ∃ z : Int, (i : Int) = z := ⟨_, rfl⟩
        have HF : Hid (fndV L (atK x.2.1 x.2.2.1) = fi) := hid (by unfold fndV; rw [hf_]; exact hfi_)
        have HFI := hid hfi_
        have cf : decide (fi ≥ (0 : Int)) = true := decide_eq_true (by omega)
        have cf' : decide ((0 : Int) ≤ fi) = true := decide_eq_true (by omega)
        clear hf_ hnv_ hfi_
        have s1 := True.intro
        have s2 := True.intro
        go_wp2_with (first
          | ((with_reducible refine gate_d (N := 34) rfl ?_); refine ag_fix (.pointer (some (ad.add (x32.toNat * 4)))) (ex_satN _ _ x32 _ _ HVA.out HJ0.out HC.out t_us36 t_aT40.size _ _ rfl rfl rfl) rfl ?_)
          | ((with_reducible refine gate_d (N := 35) rfl ?_); refine ag_fix (.agg (en40 x).toArray) (ex_ldN t_aT40 _ _ (en40_len x) HCE.out _ rfl rfl) rfl ?_)
          | ((with_reducible refine gate_d (N := 8) rfl ?_); clear t4; obtain ⟨ga, hga⟩ : ∃ g_, wr.heap.size = g_ := ⟨_, rfl⟩; refine ag_alst t_aT40 (en40 x).toArray ga hga rfl (by intro u_ hu_; exact en_one [x] u_ (by simpa using hu_)) rfl rfl 8 rfl _ _ rfl (fun _ => rfl) (fun _ => rfl) rfl ?_; intro w4 hb_ hB_ hs_; have NFa : Hid (¬ F ga ∧ ga ≠ a2n) := hid ⟨fun h_ => by have := PR.out.lt1 ga h_; omega, by have := PR.out.lt2.2; omega⟩; have PR4 := hid (PR.out.go (by rw [hga]; exact hb_)); have BKx := hid hB_; clear hb_ hB_ hs_ hga PR HCE)
          | ((with_reducible refine gate_d (N := 36) rfl ?_); refine ag_fix (.pointer (some ⟨ga, 1, none⟩)) (ex_field 40 1 (.pointer (some ⟨ga, 0, none⟩)) (.pointer (some ⟨ga, 1, none⟩)) (t_fa40_1 ga) _ rfl rfl) rfl ?_)
          | ((with_reducible refine gate_d (N := 37) rfl ?_); refine ag_fix (.int .i64 x.2.1) (ex_get t_sT3 ga 1 (.int .i64 x.2.1) (en40 x).toArray BKx.out rfl _ rfl rfl) rfl ?_)
          | (go_at_call 25; clear t5; refine (at_calls x.2.1 x.2.2.1 _).mono ?_; rintro e_ w5 ⟨rfl, hb_⟩; have PR5 := hid (PR4.out.go hb_); have BKx5 := hid (BKx.out.below hb_ BKx.out.lt); clear hb_ PR4 BKx)
          | ((with_reducible refine gate_d (N := 9) rfl ?_); clear t6; obtain ⟨gp, hgp⟩ : ∃ g_, w5.heap.size = g_ := ⟨_, rfl⟩; refine ag_alst posT (pv (atK x.2.1 x.2.2.1).1 (atK x.2.1 x.2.2.1).2.1 (atK x.2.1 x.2.2.1).2.2.1 (atK x.2.1 x.2.2.1).2.2.2.1) gp hgp (by rw [pv_xv, xv_size, (atK_good _ _).1]; rfl) (pos_one _ _ _ _) rfl rfl 9 rfl _ _ rfl (fun _ => rfl) (fun _ => rfl) rfl ?_; intro w6 hb_ hB_ hs_; have NFp : Hid (¬ F gp ∧ gp ≠ a2n) := hid ⟨fun h_ => by have := PR5.out.lt1 gp h_; omega, by have := PR5.out.lt2.2; omega⟩; have PR6 := hid (PR5.out.go (by rw [hgp]; exact hb_)); have BKx6 := hid (BKx5.out.below hb_ (by have := BKx5.out.lt; omega)); have BKp := hid hB_; clear hb_ hB_ hs_ hgp PR5 BKx5)
          | ((with_reducible refine gate_d (N := 39) rfl ?_); refine ag_fix (.pointer (some ⟨ga, 0, none⟩)) (ex_field 40 0 (.pointer (some ⟨ga, 0, none⟩)) (.pointer (some ⟨ga, 0, none⟩)) (t_fa40_0 ga) _ rfl rfl) rfl ?_)
          | ((with_reducible refine gate_d (N := 40) rfl ?_); refine ag_fix (.int .i64 x.1) (ex_get t_sT3 ga 0 (.int .i64 x.1) (en40 x).toArray BKx6.out rfl _ rfl rfl) rfl ?_)
          | ((with_reducible refine gate_d (N := 65) rfl ?_); refine ag_fix (.agg (pv (atK x.2.1 x.2.2.1).1 (atK x.2.1 x.2.2.1).2.1 (atK x.2.1 x.2.2.1).2.2.1 (atK x.2.1 x.2.2.1).2.2.2.1)) (ex_load posT gp 0 (pv (atK x.2.1 x.2.2.1).1 (atK x.2.1 x.2.2.1).2.1 (atK x.2.1 x.2.2.1).2.2.1 (atK x.2.1 x.2.2.1).2.2.2.1) (pv (atK x.2.1 x.2.2.1).1 (atK x.2.1 x.2.2.1).2.1 (atK x.2.1 x.2.2.1).2.2.1 (atK x.2.1 x.2.2.1).2.2.2.1) BKp.out (pos_le (atK_good _ _).1) (pos_all (atK_good _ _).1) _ rfl rfl) rfl ?_)
          | ((with_reducible refine gate_d (N := 66) rfl ?_); refine ag_fix (.pointer (some ⟨ga, 2, none⟩)) (ex_field 40 2 (.pointer (some ⟨ga, 0, none⟩)) (.pointer (some ⟨ga, 2, none⟩)) (t_fa40_2 ga) _ rfl rfl) rfl ?_)
          | ((with_reducible refine gate_d (N := 67) rfl ?_); refine ag_fix (.int .i64 x.2.2.1) (ex_get t_sT3 ga 2 (.int .i64 x.2.2.1) (en40 x).toArray BKx6.out rfl _ rfl rfl) rfl ?_)
          | (go_at_call 28; clear s1; refine (PR6.out.get (atK x.2.1 x.2.2.1) (atK_good _ _)).mono ?_; rintro e_ wg ⟨rfl, hb_⟩; rw [HG.out]; have PRg := hid (PR6.out.go hb_); have BXg := hid (BKx6.out.below hb_ BKx6.out.lt); have BPg := hid (BKp.out.below hb_ BKp.out.lt); clear hb_ PR6 BKx6 BKp)
          | ((with_reducible refine gate_d (N := 72) rfl ?_); refine ag_fix (.agg (pv (atK x.2.1 x.2.2.1).1 (atK x.2.1 x.2.2.1).2.1 (atK x.2.1 x.2.2.1).2.2.1 (atK x.2.1 x.2.2.1).2.2.2.1)) (ex_load posT gp 0 (pv (atK x.2.1 x.2.2.1).1 (atK x.2.1 x.2.2.1).2.1 (atK x.2.1 x.2.2.1).2.2.1 (atK x.2.1 x.2.2.1).2.2.2.1) (pv (atK x.2.1 x.2.2.1).1 (atK x.2.1 x.2.2.1).2.1 (atK x.2.1 x.2.2.1).2.2.1 (atK x.2.1 x.2.2.1).2.2.2.1) BPg.out (pos_le (atK_good _ _).1) (pos_all (atK_good _ _).1) _ rfl rfl) rfl ?_)
          | ((with_reducible refine gate_d (N := 73) rfl ?_); refine ag_fix (.pointer (some ⟨ga, 2, none⟩)) (ex_field 40 2 (.pointer (some ⟨ga, 0, none⟩)) (.pointer (some ⟨ga, 2, none⟩)) (t_fa40_2 ga) _ rfl rfl) rfl ?_)
          | ((with_reducible refine gate_d (N := 74) rfl ?_); refine ag_fix (.int .i64 x.2.2.1) (ex_get t_sT3 ga 2 (.int .i64 x.2.2.1) (en40 x).toArray BXg.out rfl _ rfl rfl) rfl ?_)
          | (go_at_call 32; clear s2; refine (rfind_calls PRg.out.t2 (atK x.2.1 x.2.2.1) (atK_goodR _ _)).mono ?_; rintro e_ wf ⟨rfl, hb_⟩; rw [HF.out]; have PRf := hid (PRg.out.go hb_); clear hb_ PRg BXg BPg)
          | ((with_reducible refine gate_d (N := 86) rfl ?_); refine ag_fix (.pointer (some ⟨g2n, 0, none⟩)) (ex_field 59 0 (.pointer (some ⟨g2n, 0, none⟩)) (.pointer (some ⟨g2n, 0, none⟩)) (t_fa59_0 g2n) _ rfl rfl) rfl ?_)
          | ((with_reducible refine gate_d (N := 87) rfl ?_); refine ag_fix (.slice (some ⟨a2n, 0, none⟩) (L).length (L).length) (ex_get t_sT57 g2n 0 (.slice (some ⟨a2n, 0, none⟩) (L).length (L).length) #[.slice (some ⟨a2n, 0, none⟩) (L).length (L).length] PRf.out.t2.tab rfl _ rfl rfl) rfl ?_)
          | ((with_reducible refine gate_d (N := 89) rfl ?_); refine ag_fix (.pointer (some ⟨a2n, i * 70, none⟩)) (ex_satR a2n _ _ fi i HFI.out.symm HI.out _ _ rfl rfl rfl) rfl ?_)
          | ((with_reducible refine gate_d (N := 90) rfl ?_); refine ag_fix (.pointer (some ⟨a2n, i * 70 + 68, none⟩)) (ex_field 62 2 (.pointer (some ⟨a2n, i * 70, none⟩)) (.pointer (some ⟨a2n, i * 70 + 68, none⟩)) (t_fa62_2 a2n (i * 70)) _ rfl rfl) rfl ?_)
          | ((with_reducible refine gate_d (N := 91) rfl ?_); refine ag_fix (.int .i64 nv) (ex_get t_sT3 a2n (i * 70 + 68) (.int .i64 nv) (rcells (L)) PRf.out.t2.row HCV.out _ rfl rfl) rfl ?_))
        (try simp only [Act.put, sI, sZ, sS])
        go_roundg K1
        case measure => omega
        case rel => exact ⟨_, j + 1, g2n, a2n, rfl, rfl, hid (by have := HJ.out; have := HC.out; have := HLn.out; rw [k64 (by omega) (by omega)]; omega), hid (by have := HK2.out; omega), hid (by have := HJ.out; have := HC.out; omega), hid ⟨_, _, HLL.out, PRf.out⟩⟩
    ·
     have cb : decide (x32 < (l.length : Int)) = false := decide_eq_false c
     have HC := hid c
     clear c
     have t5 := True.intro
     have t6 := True.intro
     go_wp2_with (first
       | (go_at_call 27; clear t5; refine (PR.out.len).mono ?_; rintro e_ w5 ⟨rfl, rfl⟩)
       | (go_at_call 33; clear t6; refine (rlen_calls PR.out.t2).mono ?_; rintro e_ w6 ⟨rfl, rfl⟩))
     (try simp only [Act.put, sI, sZ, sS])
     go_ret
     exact ⟨by first | rfl | (simp; done), PR.out.below⟩
end Go.Proofs.Ytpjocgebnodnoaa
