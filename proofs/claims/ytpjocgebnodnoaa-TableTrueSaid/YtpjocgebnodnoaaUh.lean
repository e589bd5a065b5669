/- Tables: two side by side; what is put behind a clearing is as in a new one. -/
import Derived.Test.YtpjocgebnodnoaaOa
namespace Go.Proofs.Ytpjocgebnodnoaa
open Go.RowKit
set_option linter.unusedVariables false
set_option linter.unusedSimpArgs false
set_option maxRecDepth 100000
/-- two tables, apart from each other, in blocks that are new since w0. -/
structure Two (w0 w : World) (F F2 : Nat → Prop) (L L2 : Slots) (g a g2 a2 : Nat) : Prop where
  t1 : ∃ ps, TBx w F L g a ps
  t2 : ∃ ps, TBx w F2 L2 g2 a2 ps
  b1 : ∀ k, F k → w0.heap.size ≤ k
  b2 : ∀ k, F2 k → w0.heap.size ≤ k
  dj : ∀ k, F k → F2 k → False
  below : Below w0.heap.size w0 w
section
variable {w0 w w' : World} {F F2 : Nat → Prop} {L L2 : Slots} {g a g2 a2 : Nat}
theorem Two.swap (h : Two w0 w F F2 L L2 g a g2 a2) : Two w0 w F2 F L2 L g2 a2 g a := ⟨h.t2, h.t1, h.b2, h.b1, fun k h1 h2 => h.dj k h2 h1, h.below⟩
theorem Two.go (h : Two w0 w F F2 L L2 g a g2 a2) (hb : Below w.heap.size w w') : Two w0 w' F F2 L L2 g a g2 a2 :=
  ⟨by obtain ⟨ps, h1⟩ := h.t1; exact ⟨ps, h1.below hb⟩, by obtain ⟨ps, h1⟩ := h.t2; exact ⟨ps, h1.below hb⟩, h.b1, h.b2, h.dj, h.below.trans (hb.mono h.below.size)⟩
theorem Two.lt1 (h : Two w0 w F F2 L L2 g a g2 a2) : ∀ k, F k → k < w.heap.size := by obtain ⟨ps, h1⟩ := h.t1; exact h1.lt
theorem Two.lt2 (h : Two w0 w F F2 L L2 g a g2 a2) : ∀ k, F2 k → k < w.heap.size := by obtain ⟨ps, h1⟩ := h.t2; exact h1.lt
theorem Two.put (h : Two w0 w F F2 L L2 g a g2 a2) (q : Key) (hq : GoodKey q) (y : Int) :
    Calls Try.prog 24 #[.pointer (some ⟨g, 0, none⟩), .agg (pv q.1 q.2.1 q.2.2.1 q.2.2.2.1), .int .i64 q.2.2.2.2, .int .i64 y] w fun e w' => ∃ v F', e = .returned v ∧ Two w0 w' F' F2 (putZ L q y) L2 g a g2 a2 ∧ Fr F w w' ∧ (∀ k, F' k → F k ∨ w.heap.size ≤ k) := by
  obtain ⟨ps, h1⟩ := h.t1
  obtain ⟨ps2, h2⟩ := h.t2
  refine (put_calls h1 q hq y).mono ?_
  rintro e w' ⟨v, rfl, F', ps', t', hF', fr⟩
  refine ⟨v, F', rfl, ⟨⟨ps', t'⟩, ⟨ps2, h2.frame fr (fun k hk hk1 => h.dj k hk1 hk)⟩, fun k hk => ?_, h.b2, fun k hk hk2 => ?_, h.below.trans (fr.below h.b1 h.below.size)⟩, fr, hF'⟩
  · rcases hF' k hk with h3 | h3
    · exact h.b1 k h3
    · exact Nat.le_trans h.below.size h3
  · rcases hF' k hk with h3 | h3
    · exact h.dj k h3 hk2
    · have := h2.lt k hk2; omega
theorem Two.get (h : Two w0 w F F2 L L2 g a g2 a2) (q : Key) (hq : GoodKey q) :
    Calls Try.prog 28 #[.pointer (some ⟨g, 0, none⟩), .agg (pv q.1 q.2.1 q.2.2.1 q.2.2.2.1), .int .i64 q.2.2.2.2] w fun e w' => e = .returned (.tuple #[.int .i64 ((getZ L q).getD 0), .bool (getZ L q).isSome]) ∧ Two w0 w' F F2 L L2 g a g2 a2 ∧ Below w.heap.size w w' := by
  obtain ⟨ps, h1⟩ := h.t1
  exact (get_calls h1 q hq).mono fun e w' hh => ⟨hh.1, h.go hh.2, hh.2⟩
theorem Two.len (h : Two w0 w F F2 L L2 g a g2 a2) : Calls Try.prog 27 #[.pointer (some ⟨g, 0, none⟩)] w fun e w' => e = .returned (.int .i64 (lenZ L : Int)) ∧ w = w' := by
  obtain ⟨ps, h1⟩ := h.t1
  exact len_calls h1
theorem Two.clear (h : Two w0 w F F2 L L2 g a g2 a2) : Calls Try.prog 26 #[.pointer (some ⟨g, 0, none⟩)] w fun e w' => ∃ v, e = .returned v ∧ Two w0 w' F F2 (emptyZ L.length) L2 g a g2 a2 := by
  obtain ⟨ps, h1⟩ := h.t1
  obtain ⟨ps2, h2⟩ := h.t2
  refine (clear_calls h1).mono ?_
  rintro e w' ⟨v, rfl, ⟨ps', t'⟩, fr⟩
  exact ⟨v, rfl, ⟨ps', t'⟩, ⟨ps2, h2.frame fr (fun k hk hk1 => h.dj k hk1 hk)⟩, h.b1, h.b2, h.dj, h.below.trans (fr.below h.b1 h.below.size)⟩
end
theorem putZ_len (L : Slots) (q : Key) (y : Int) : (putZ L q y).length = L.length := by unfold putZ; rw [List.length_set]
theorem emptyZ_len (n : Nat) : (emptyZ n).length = n := by unfold emptyZ; simp
theorem lenZ_empty (n : Nat) : lenZ (emptyZ n) = 0 := by unfold lenZ emptyZ; simp
theorem t_eN40_info : (Try.prog.info? 40).map (fun i => (i.zero, i.size, i.bytes)) = some (some (.agg #[.int .i64 0, .int .i64 0, .int .i64 0, .int .i64 0]), 4, 32) := by kernel_rfl
theorem t_eN40 : ElemN Try.prog 36 40 4 32 := ⟨t_us36, by
  obtain ⟨i, h1, h2, h3, h4⟩ := info_parts t_eN40_info
  exact ⟨i, _, h1, h2, h3, h4, rfl⟩, by decide⟩
theorem ex_app0 {P : Program} {w : World} {o : Oper} {ev : Operand → Value} {t e : TypeId} {sz : Nat} (hu : P.underlying t = some (.slice e)) (hz : ∀ w, (sizeOf e).run P w = .ok sz w) (A : Option Addr) (n c : Nat) (hnc : n ≤ c) (v : Value) (hv : v = .slice A n c) (s x : Operand) (ho : o.op = .call { callee := .builtin .append, args := #[s, x], argTypes := #[t, t] }) (hs : ev s = v) (hx : ev x = .slice none 0 0) : (execOp ev o).run P w = .ok (.value v) w := by
  subst hv
  have h : ∀ ty, (Builtin.append_ #[t, t] ty #[.slice A n c, .slice none 0 0]).run P w = .ok (.slice A n c) w := fun ty => by
    cases A <;> simp [Builtin.append_, run_underlying hu, hz, Builtin.lenOf, Builtin.firstCells, hnc, storeCells]
  simp [execOp, ho, resolve, invoke, builtin, hs, hx, h, Result.andThen]
section
variable {P : Program} {t e : TypeId} {bytes n len m : Nat} {w : World} {ops : Array Oper} {rest : List Oper} {o : Oper} {a : Act} {Q : Exit → Act → World → Prop}
/-- append(v, more...), more empty or not. -/
theorem app_any (E : ElemN P t e n bytes) (hsz : ∀ w, (sizeOf e).run P w = .ok n w) (B : Nat) (v v2 : Value) (xs ys : List Value) (hown : OwnN w B e n v len xs) (hs2 : SlN w n v2 m ys) (hys : ys.length = m * n) (h1 : ∀ u ∈ ys, u.oneCell' = true) (hlen : (len + m) * bytes ≤ 140737488355328) (hl : len + m ≤ maxLen) (hB : B ≤ w.heap.size)
    (hgd : o.guard = none) (s x : Operand) (ho : o.op = .call { callee := .builtin .append, args := #[s, x], argTypes := #[t, t] }) (hs : a.eval s = v) (hx : a.eval x = v2)
    (h : ∀ v' w', OwnN w' B e n v' (len + m) (xs ++ ys) → Below B w w' → (∀ g' t' cs, t' ≠ e → Blk w g' t' cs → Blk w' g' t' cs) → wpList P ops Q rest (a.put o.dst v') w') : wpList P ops Q (o :: rest) a w := by
  by_cases hm : m = 0
  · subst hm
    have hy0 : ys = [] := List.eq_nil_of_length_eq_zero (by rw [hys]; simp)
    subst hy0
    rcases hs2 with ⟨rfl, _⟩ | ⟨ad, c, rfl, hc1, hc2, hc⟩
    · obtain ⟨A, c, hv, hnc⟩ : ∃ A c, v = .slice A len c ∧ len ≤ c := by
        obtain ⟨_, h2⟩ := hown
        rcases h2 with ⟨rfl, h0⟩ | ⟨g, cap, cur, rfl, _, _, hn, _⟩
        · exact ⟨none, 0, by rw [h0], by omega⟩
        · exact ⟨_, _, rfl, hn⟩
      refine ag_fix v (ex_app0 E.und hsz A len c hnc v hv s x ho hs hx) (by unfold Region.wanted; rw [hgd]) ?_
      exact h v w (by rw [List.append_nil]; exact hown) (Below.refl _ _) (fun _ _ _ _ hh => hh)
    · obtain ⟨i, z, hi, hz, hz1, hz2, hzs⟩ := E.info
      refine wpList_append_own w hgd s x t ho B e i z n bytes E.und hi hz hz1 hz2 hzs E.pos v len xs hs hown ad 0 c [] hx (by simp) (fun j y hj => by simp at hj) (fun u hu => by simp at hu) hl hlen hB ?_
      intro v' w' h2 h3 _
      have hrow : ∀ k, v.ownBlock = some k → B ≤ k := fun k hk => (World.ownsRow.lt hown k hk).1
      refine h v' w' h2 ((Below.refl _ _).grown h3 hB hrow) (fun g' t' cs hne hb => ?_)
      refine (h3.block g' hb.lt (fun he => ?_)).trans hb
      obtain ⟨_, h4⟩ := hown
      rcases h4 with ⟨rfl, _⟩ | ⟨g2, cap, cur, rfl, _, hh, _⟩
      · simp [Value.ownBlock] at he
      · simp [Value.ownBlock] at he
        subst he
        unfold Blk at hb
        rw [hh] at hb; injection hb with hb; injection hb with _ ht; exact hne ht.symm
  · exact app_srcN E B v v2 xs ys hown hs2 hys (by omega) h1 hlen hl hB hgd s x ho hs hx (fun v' w' a1 a2 a3 _ => h v' w' a1 a2 a3)
end
theorem en_one (l : List ActT) : ∀ u ∈ l.flatMap en40, u.oneCell' = true := by
  intro u hu
  rw [List.mem_flatMap] at hu
  obtain ⟨x, _, hx⟩ := hu
  simp [en40] at hx
  rcases hx with rfl | rfl | rfl | rfl <;> rfl
theorem Two.types {w0 w w' : World} {F F2 : Nat → Prop} {L L2 : Slots} {g a g2 a2 : Nat} (h : Two w0 w F F2 L L2 g a g2 a2) (hk : ∀ g' t' cs, t' ≠ 40 → Blk w g' t' cs → Blk w' g' t' cs) (hb : Below w0.heap.size w w') : Two w0 w' F F2 L L2 g a g2 a2 := by
  have one : ∀ {F : Nat → Prop} {L : Slots} {g a : Nat} {ps : Array Value}, TBx w F L g a ps → TBx w' F L g a ps := fun h => { h with tab := hk _ _ _ (by decide) h.tab, row := hk _ _ _ (by decide) h.row, lt := fun k hf => Nat.lt_of_lt_of_le (h.lt k hf) hb.size, some_ := fun i q x hi hn => by obtain ⟨b, h1, h2, h3, h4⟩ := h.some_ i q x hi hn; exact ⟨b, h1, hk _ _ _ (by decide) h2, h3, h4⟩ }
  obtain ⟨ps, h1⟩ := h.t1
  obtain ⟨ps2, h2⟩ := h.t2
  exact ⟨⟨ps, one h1⟩, ⟨ps2, one h2⟩, h.b1, h.b2, h.dj, h.below.trans hb⟩
theorem two_new {w0 w1 w2 : World} {g a g2 a2 n : Nat} {ps ps2 : Array Value} (h1 : TBx w1 (fun k => k = g ∨ k = a) (emptyZ n) g a ps) (hg : w0.heap.size ≤ g) (ha : w0.heap.size ≤ a) (hb : Below w0.heap.size w0 w1)
    (h2 : TBx w2 (fun k => k = g2 ∨ k = a2) (emptyZ n) g2 a2 ps2) (hg2 : w1.heap.size ≤ g2) (ha2 : w1.heap.size ≤ a2) (hb2 : Below w1.heap.size w1 w2) : Two w0 w2 (fun k => k = g ∨ k = a) (fun k => k = g2 ∨ k = a2) (emptyZ n) (emptyZ n) g a g2 a2 := by
  have l1 := h1.lt g (.inl rfl)
  have l2 := h1.lt a (.inr rfl)
  exact ⟨⟨ps, h1.below hb2⟩, ⟨ps2, h2⟩, fun k hk => by rcases hk with rfl | rfl <;> assumption, fun k hk => by have := hb.size; rcases hk with rfl | rfl <;> omega, fun k hk hk2 => by rcases hk with rfl | rfl <;> rcases hk2 with rfl | rfl <;> omega, hb.trans (hb2.mono hb.size)⟩
set_option maxHeartbeats 40000000 in
theorem walk_TableClears (a0 : Int) (v1 : Value) (l : List ActT) (v2 : Value) (m : List ActT) (w : World) (hs1 : SlN w 4 v1 l.length (l.flatMap en40)) (hs2 : SlN w 4 v2 m.length (m.flatMap en40)) :
    Calls Try.prog 6 #[.int .i64 a0, v1, v2] w fun e w' => e = .returned (.bool true) ∧ Below w.heap.size w w' := by
 have HL := hid (Below.refl w.heap.size w)
 have HS1 := hid hs1
 have HS2 := hid hs2
 obtain ⟨A1, c1, hv1_⟩ := hs1.shape
 obtain ⟨A2, c2, hv2_⟩ := hs2.shape
 have HV1 := hid hv1_
 have HV2 := hid hv2_
 clear hs1 hs2 hv1_ hv2_
 by_cases k1 : (l.length : Int) > 100
 · have cb1 : decide ((l.length : Int) > 100) = true := decide_eq_true k1
   have cb1' : decide ((100 : Int) < (l.length : Int)) = true := decide_eq_true k1
   clear k1
   go_enter Try.func6, Try.ntmps6
   have t1 := True.intro
   have t2 := True.intro
   have t3 := True.intro
   go_wp2_with (first
    | (go_at_call 22; clear t1; refine (wakes_calls _).mono ?_; rintro e_ w1 ⟨rfl, hb_⟩; have HL1 := hid (HL.out.trans (hb_.mono HL.out.size)); clear hb_ HL)
    | ((with_reducible refine gate_d (N := 22) rfl ?_); refine ag_fix (.int .i64 (l.length : Int)) (ex_lenN t_us36 A1 _ c1 _ HV1.out _ rfl rfl) rfl ?_)
    | ((with_reducible refine gate_d (N := 26) rfl ?_); refine ag_fix (.int .i64 (m.length : Int)) (ex_lenN t_us36 A2 _ c2 _ HV2.out _ rfl rfl) rfl ?_))
   (try simp only [Act.put, sI, sZ, sS])
   go_ret
   exact ⟨by first | rfl | (simp; done), HL1.out⟩
 · have cb1 : decide ((l.length : Int) > 100) = false := decide_eq_false k1
   have cb1' : decide ((100 : Int) < (l.length : Int)) = false := decide_eq_false k1
   have HL1n := hid k1
   clear k1
   by_cases k2 : (m.length : Int) > 100
   · have cb2 : decide ((m.length : Int) > 100) = true := decide_eq_true k2
     have cb2' : decide ((100 : Int) < (m.length : Int)) = true := decide_eq_true k2
     clear k2
     go_enter Try.func6, Try.ntmps6
     have t1 := True.intro
     have t2 := True.intro
     have t3 := True.intro
     go_wp2_with (first
      | (go_at_call 22; clear t1; refine (wakes_calls _).mono ?_; rintro e_ w1 ⟨rfl, hb_⟩; have HL1 := hid (HL.out.trans (hb_.mono HL.out.size)); clear hb_ HL)
      | ((with_reducible refine gate_d (N := 22) rfl ?_); refine ag_fix (.int .i64 (l.length : Int)) (ex_lenN t_us36 A1 _ c1 _ HV1.out _ rfl rfl) rfl ?_)
      | ((with_reducible refine gate_d (N := 26) rfl ?_); refine ag_fix (.int .i64 (m.length : Int)) (ex_lenN t_us36 A2 _ c2 _ HV2.out _ rfl rfl) rfl ?_))
     (try simp only [Act.put, sI, sZ, sS])
     go_ret
     exact ⟨by first | rfl | (simp; done), HL1.out⟩
   · have cb2 : decide ((m.length : Int) > 100) = false := decide_eq_false k2
     have cb2' : decide ((100 : Int) < (m.length : Int)) = false := decide_eq_false k2
     have HL2n := hid k2
     clear k2
     go_enter Try.func6, Try.ntmps6
     have t1 := True.intro
     have t2 := True.intro
     have t3 := True.intro
     go_wp2_with (first
      | (go_at_call 22; clear t1; refine (wakes_calls _).mono ?_; rintro e_ w1 ⟨rfl, hb_⟩; have HL1 := hid (HL.out.trans (hb_.mono HL.out.size)); clear hb_ HL)
      | ((with_reducible refine gate_d (N := 22) rfl ?_); refine ag_fix (.int .i64 (l.length : Int)) (ex_lenN t_us36 A1 _ c1 _ HV1.out _ rfl rfl) rfl ?_)
      | ((with_reducible refine gate_d (N := 26) rfl ?_); refine ag_fix (.int .i64 (m.length : Int)) (ex_lenN t_us36 A2 _ c2 _ HV2.out _ rfl rfl) rfl ?_)
      | ((with_reducible refine gate_d (N := 34) rfl ?_); refine ag_fix (.int .i64 (l.length : Int)) (ex_lenN t_us36 A1 _ c1 _ HV1.out _ rfl rfl) rfl ?_)
      | (go_at_call 23; clear t2; refine (new_calls _ a0).mono ?_; rintro e_ w2 ⟨g, a, ps, rfl, tb_, hg_, ha_, _, hb_⟩; have TBa := hid tb_; have HG1 := hid (Nat.le_trans HL1.out.size hg_); have HA1 := hid (Nat.le_trans HL1.out.size ha_); have HL2 := hid (HL1.out.trans (hb_.mono HL1.out.size)); clear tb_ hg_ ha_ hb_ HL1)
      | (go_at_call 23; clear t3; refine (new_calls _ a0).mono ?_; rintro e_ w3 ⟨g2, a2, ps2, rfl, tb_, hg_, ha_, _, hb_⟩; have TW : Hid (Two w w3 _ _ (emptyZ (placesZ a0)) (emptyZ (placesZ a0)) g a g2 a2) := hid (two_new TBa.out HG1.out HA1.out HL2.out tb_ hg_ ha_ hb_); clear tb_ hg_ ha_ hb_ TBa HG1 HA1 HL2))
     (try simp only [Act.put, sI, sZ, sS])
     have TW0 : Hid (∃ F F2 L, L.length = placesZ a0 ∧ Two w w3 F F2 L (emptyZ (placesZ a0)) g a g2 a2) := hid ⟨_, _, _, emptyZ_len _, TW.out⟩
     clear TW
     go_loopg [35] (l.length + 1) (fun kq v35 w' => ∃ (x35 : Int) (j : Nat), v35 = .int .i64 x35 ∧ Hid (x35 = (j : Int)) ∧ Hid (kq + j = l.length + 1) ∧ Hid (j ≤ l.length) ∧ Hid (∃ F F2 L, L.length = placesZ a0 ∧ Two w w' F F2 L (emptyZ (placesZ a0)) g a g2 a2))
     case atStart => exact ⟨0, 0, (by first | rfl | (simp; done)), hid rfl, hid (by omega), hid (by omega), TW0⟩
     case round =>
      clear TW0
      obtain ⟨x35, j, rfl, HJ, HK2, HJM, HTW⟩ := hrel
      obtain ⟨F, F2, L, hl_, tw_⟩ := HTW.out
      have HLL := hid hl_
      have TW := hid tw_
      clear hl_ tw_ HTW
      obtain ⟨K1, rfl⟩ : ∃ K_, gk = K_ + 1 := ⟨gk - 1, by have := HK2.out; have := HJM.out; omega⟩
      by_cases c : x35 < (l.length : Int)
      ·
       have cb : decide (x35 < (l.length : Int)) = true := decide_eq_true c
       have HC := hid c
       clear c
       have HJ0 : Hid (0 ≤ x35) := hid (by have := HJ.out; omega)
       obtain ⟨x, hx_⟩ : ∃ z, nt l x35.toNat z40 = z := ⟨_, rfl⟩
       obtain ⟨ad, c0, hv_, hc_⟩ := SlN.get en40_len (HS1.out.below TW.out.below) z40 HJ0.out HC.out
       rw [hx_] at hc_
       have HVA := hid hv_
       have HCE := hid hc_
       clear hv_ hc_
       have HX := hid hx_
       clear hx_
       have t4 := True.intro
       go_wp2_with (first
        | ((with_reducible refine gate_d (N := 37) rfl ?_); refine ag_fix (.pointer (some (ad.add (x35.toNat * 4)))) (ex_satN _ _ x35 _ _ HVA.out HJ0.out HC.out t_us36 t_aT40.size _ _ rfl rfl rfl) rfl ?_)
        | ((with_reducible refine gate_d (N := 38) rfl ?_); refine ag_fix (.agg (en40 x).toArray) (ex_ldN t_aT40 _ _ (en40_len x) HCE.out _ rfl rfl) rfl ?_)
        | ((with_reducible refine gate_d (N := 10) rfl ?_); clear t4; obtain ⟨ga, hga⟩ : ∃ g_, wr.heap.size = g_ := ⟨_, rfl⟩; refine ag_alst t_aT40 (en40 x).toArray ga hga rfl (by intro u_ hu_; exact en_one [x] u_ (by simpa using hu_)) rfl rfl 10 rfl _ _ rfl (fun _ => rfl) (fun _ => rfl) rfl ?_; intro w4 hb_ hB_ hs_; have NF1 : Hid (¬ F ga) := hid (fun h_ => by have := TW.out.lt1 ga h_; omega); have NF2 : Hid (¬ F2 ga) := hid (fun h_ => by have := TW.out.lt2 ga h_; omega); have TW4 := hid (TW.out.go (by rw [hga]; exact hb_)); have BKx := hid hB_; clear hb_ hB_ hs_ hga TW HCE))
       (try simp only [Act.put, sI, sZ, sS])
       have BK4 := BKx
       clear BKx
       have WR64 := i64_w
       refine sq_region (fun w'_ => Blk w'_ ga 40 (en40 x).toArray) [] [(0, 2), (1, 2), (2, 1), (4, 2), (5, 1), (6, 2), (7, 1), (3, 0), (8, 0)] (by kernel_rfl) (by kernel_rfl) (by kernel_rfl) rfl ?_
       intro w5 hb_
       have TW5 := hid (TW4.out.go hb_)
       have BK5 := hid (BK4.out.below hb_ BK4.out.lt)
       clear hb_ TW4 BK4
       refine sq_pure (.pointer (some ⟨g, 0, none⟩)) rfl (fun w'_ => by go_simp) rfl rfl ?_
       intro ts_ ht_; simp only [sI, sZ, sS] at ht_; subst ht_
       refine sq_pure (.pointer (some ⟨ga, 1, none⟩)) rfl (fun w'_ => ex_field 40 1 (.pointer (some ⟨ga, 0, none⟩)) (.pointer (some ⟨ga, 1, none⟩)) (t_fa40_1 ga) _ rfl rfl) rfl rfl ?_
       intro ts_ ht_; simp only [sI, sZ, sS] at ht_; subst ht_
       refine sq_take (.int .i64 x.2.1) BK5.out rfl (fun w'_ hS_ => ex_get t_sT3 ga 1 (.int .i64 x.2.1) (en40 x).toArray hS_ rfl _ rfl rfl) rfl rfl ?_
       intro ts_ ht_; simp only [sI, sZ, sS] at ht_; subst ht_
       refine sq_pure (.pointer (some ⟨ga, 2, none⟩)) rfl (fun w'_ => ex_field 40 2 (.pointer (some ⟨ga, 0, none⟩)) (.pointer (some ⟨ga, 2, none⟩)) (t_fa40_2 ga) _ rfl rfl) rfl rfl ?_
       intro ts_ ht_; simp only [sI, sZ, sS] at ht_; subst ht_
       refine sq_take (.int .i64 x.2.2.1) BK5.out rfl (fun w'_ hS_ => ex_get t_sT3 ga 2 (.int .i64 x.2.2.1) (en40 x).toArray hS_ rfl _ rfl rfl) rfl rfl ?_
       intro ts_ ht_; simp only [sI, sZ, sS] at ht_; subst ht_
       refine sq_pure (.pointer (some ⟨ga, 3, none⟩)) rfl (fun w'_ => ex_field 40 3 (.pointer (some ⟨ga, 0, none⟩)) (.pointer (some ⟨ga, 3, none⟩)) (t_fa40_3 ga) _ rfl rfl) rfl rfl ?_
       intro ts_ ht_; simp only [sI, sZ, sS] at ht_; subst ht_
       refine sq_take (.int .i64 x.2.2.2) BK5.out rfl (fun w'_ hS_ => ex_get t_sT3 ga 3 (.int .i64 x.2.2.2) (en40 x).toArray hS_ rfl _ rfl rfl) rfl rfl ?_
       intro ts_ ht_; simp only [sI, sZ, sS] at ht_; subst ht_
       refine sq_act rfl (fun Q'_ hQ_ => ?_)
       refine wl_call 25 #[.int .i64 x.2.1] (by go_simp) rfl ((at_calls x.2.1 x.2.2.1 _).mono ?_)
       rintro e_ w6 ⟨rfl, hb_⟩
       have TW6 := hid (TW5.out.go hb_)
       have BK6 := hid (BK5.out.below hb_ BK5.out.lt)
       clear hb_ TW5 BK5
       refine ⟨_, rfl, ?_⟩
       refine hQ_ _ _ (fun _ => BK6.out) ?_
       clear hQ_ Q'_
       simp only [Act.put, sI, sZ, sS]
       refine sq_act rfl (fun Q'_ hQ_ => ?_)
       refine wl_call 24 #[.pointer (some ⟨g, 0, none⟩), .agg (pv (atK x.2.1 x.2.2.1).1 (atK x.2.1 x.2.2.1).2.1 (atK x.2.1 x.2.2.1).2.2.1 (atK x.2.1 x.2.2.1).2.2.2.1), .int .i64 x.2.2.1, .int .i64 x.2.2.2] (by go_simp) rfl ((TW6.out.put (atK x.2.1 x.2.2.1) (atK_good _ _) x.2.2.2).mono ?_)
       rintro e_ w7 ⟨v_, F7, rfl, tw_, fr_, hf_⟩
       have TW7 := hid tw_
       have BK7 := hid (fr_.blk BK6.out NF1.out)
       clear tw_ fr_ hf_ TW6 BK6
       refine ⟨_, rfl, ?_⟩
       refine hQ_ _ _ (fun _ => BK7.out) ?_
       clear hQ_ Q'_
       change Sq _ _ _ _ _ _ (Act.put _ (some 47) _) _
       simp only [Act.put, sI, sZ, sS]
       refine sq_end ?_
       clear WR64
       go_wp2_with fail
       go_roundg K1
       case measure => omega
       case rel => exact ⟨_, j + 1, rfl, hid (by have := HJ.out; have := HC.out; have := HL1n.out; rw [k64 (by omega) (by omega)]; omega), hid (by have := HK2.out; omega), hid (by have := HJ.out; have := HC.out; omega), hid ⟨_, _, _, (putZ_len _ _ _).trans HLL.out, TW7.out⟩⟩
      ·
       have cb : decide (x35 < (l.length : Int)) = false := decide_eq_false c
       have HC := hid c
       clear c HC HJ HK2 HJM
       have t5 := True.intro
       have t6 := True.intro
       go_wp2_with (first
        | (go_at_call 26; clear t5; refine (TW.out.clear).mono ?_; rintro e_ w5 ⟨v_, rfl, tw_⟩; have TW5 : Hid (Two w w5 F F2 (emptyZ (placesZ a0)) (emptyZ (placesZ a0)) g a g2 a2) := hid (by rw [HLL.out] at tw_; exact tw_); clear tw_ TW)
        | (go_at_call 27; clear t6; refine (TW5.out.len).mono ?_; rintro e_ w6 ⟨rfl, rfl⟩; rw [lenZ_empty])
        | ((with_reducible refine gate_d (N := 55) rfl ?_); refine ag_fix (.int .i64 (m.length : Int)) (ex_lenN t_us36 A2 _ c2 _ HV2.out _ rfl rfl) rfl ?_))
       (try simp only [Act.put, sI, sZ, sS])
       have TW0 : Hid (∃ F F2 L, L.length = placesZ a0 ∧ Two w w5 F F2 L L g a g2 a2) := hid ⟨_, _, _, emptyZ_len _, TW5.out⟩
       clear TW5
       go_loopg [56] (m.length + 1) (fun kq v56 w' => ∃ (x56 : Int) (j : Nat), v56 = .int .i64 x56 ∧ Hid (x56 = (j : Int)) ∧ Hid (kq + j = m.length + 1) ∧ Hid (j ≤ m.length) ∧ Hid (∃ F F2 L, L.length = placesZ a0 ∧ Two w w' F F2 L L g a g2 a2))
       case atStart => exact ⟨0, 0, (by first | rfl | (simp; done)), hid rfl, hid (by omega), hid (by omega), TW0⟩
       case round =>
        clear TW0 HLL L F F2
        obtain ⟨x56, j, rfl, HJ, HK2, HJM, HTW⟩ := hrel
        obtain ⟨F, F2, L, hl_, tw_⟩ := HTW.out
        have HLL := hid hl_
        have TW := hid tw_
        clear hl_ tw_ HTW
        obtain ⟨K1, rfl⟩ : ∃ K_, gk = K_ + 1 := ⟨gk - 1, by have := HK2.out; have := HJM.out; omega⟩
        by_cases c : x56 < (m.length : Int)
        ·
         have cb : decide (x56 < (m.length : Int)) = true := decide_eq_true c
         have HC := hid c
         clear c
         have HJ0 : Hid (0 ≤ x56) := hid (by have := HJ.out; omega)
         obtain ⟨x, hx_⟩ : ∃ z, nt m x56.toNat z40 = z := ⟨_, rfl⟩
         obtain ⟨ad, c0, hv_, hc_⟩ := SlN.get en40_len (HS2.out.below TW.out.below) z40 HJ0.out HC.out
         rw [hx_] at hc_
         have HVA := hid hv_
         have HCE := hid hc_
         clear hv_ hc_
         have HX := hid hx_
         clear hx_
         have t4 := True.intro
         go_wp2_with (first
          | ((with_reducible refine gate_d (N := 58) rfl ?_); refine ag_fix (.pointer (some (ad.add (x56.toNat * 4)))) (ex_satN _ _ x56 _ _ HVA.out HJ0.out HC.out t_us36 t_aT40.size _ _ rfl rfl rfl) rfl ?_)
          | ((with_reducible refine gate_d (N := 59) rfl ?_); refine ag_fix (.agg (en40 x).toArray) (ex_ldN t_aT40 _ _ (en40_len x) HCE.out _ rfl rfl) rfl ?_)
          | ((with_reducible refine gate_d (N := 12) rfl ?_); clear t4; obtain ⟨ga, hga⟩ : ∃ g_, wr.heap.size = g_ := ⟨_, rfl⟩; refine ag_alst t_aT40 (en40 x).toArray ga hga rfl (by intro u_ hu_; exact en_one [x] u_ (by simpa using hu_)) rfl rfl 12 rfl _ _ rfl (fun _ => rfl) (fun _ => rfl) rfl ?_; intro w4 hb_ hB_ hs_; have NF1 : Hid (¬ F ga) := hid (fun h_ => by have := TW.out.lt1 ga h_; omega); have NF2 : Hid (¬ F2 ga) := hid (fun h_ => by have := TW.out.lt2 ga h_; omega); have TW4 := hid (TW.out.go (by rw [hga]; exact hb_)); have BKx := hid hB_; clear hb_ hB_ hs_ hga TW HCE))
         (try simp only [Act.put, sI, sZ, sS])
         have BK4 := BKx
         clear BKx
         have WR64 := i64_w
         refine sq_region (fun w'_ => Blk w'_ ga 40 (en40 x).toArray) [] [(0, 2), (1, 2), (2, 1), (4, 2), (5, 1), (6, 2), (7, 1), (3, 0), (8, 0)] (by kernel_rfl) (by kernel_rfl) (by kernel_rfl) rfl ?_
         intro w5 hb_
         have TW5 := hid (TW4.out.go hb_)
         have BK5 := hid (BK4.out.below hb_ BK4.out.lt)
         clear hb_ TW4 BK4
         refine sq_pure (.pointer (some ⟨g, 0, none⟩)) rfl (fun w'_ => by go_simp) rfl rfl ?_
         intro ts_ ht_; simp only [sI, sZ, sS] at ht_; subst ht_
         refine sq_pure (.pointer (some ⟨ga, 1, none⟩)) rfl (fun w'_ => ex_field 40 1 (.pointer (some ⟨ga, 0, none⟩)) (.pointer (some ⟨ga, 1, none⟩)) (t_fa40_1 ga) _ rfl rfl) rfl rfl ?_
         intro ts_ ht_; simp only [sI, sZ, sS] at ht_; subst ht_
         refine sq_take (.int .i64 x.2.1) BK5.out rfl (fun w'_ hS_ => ex_get t_sT3 ga 1 (.int .i64 x.2.1) (en40 x).toArray hS_ rfl _ rfl rfl) rfl rfl ?_
         intro ts_ ht_; simp only [sI, sZ, sS] at ht_; subst ht_
         refine sq_pure (.pointer (some ⟨ga, 2, none⟩)) rfl (fun w'_ => ex_field 40 2 (.pointer (some ⟨ga, 0, none⟩)) (.pointer (some ⟨ga, 2, none⟩)) (t_fa40_2 ga) _ rfl rfl) rfl rfl ?_
         intro ts_ ht_; simp only [sI, sZ, sS] at ht_; subst ht_
         refine sq_take (.int .i64 x.2.2.1) BK5.out rfl (fun w'_ hS_ => ex_get t_sT3 ga 2 (.int .i64 x.2.2.1) (en40 x).toArray hS_ rfl _ rfl rfl) rfl rfl ?_
         intro ts_ ht_; simp only [sI, sZ, sS] at ht_; subst ht_
         refine sq_pure (.pointer (some ⟨ga, 3, none⟩)) rfl (fun w'_ => ex_field 40 3 (.pointer (some ⟨ga, 0, none⟩)) (.pointer (some ⟨ga, 3, none⟩)) (t_fa40_3 ga) _ rfl rfl) rfl rfl ?_
         intro ts_ ht_; simp only [sI, sZ, sS] at ht_; subst ht_
         refine sq_take (.int .i64 x.2.2.2) BK5.out rfl (fun w'_ hS_ => ex_get t_sT3 ga 3 (.int .i64 x.2.2.2) (en40 x).toArray hS_ rfl _ rfl rfl) rfl rfl ?_
         intro ts_ ht_; simp only [sI, sZ, sS] at ht_; subst ht_
         refine sq_act rfl (fun Q'_ hQ_ => ?_)
         refine wl_call 25 #[.int .i64 x.2.1] (by go_simp) rfl ((at_calls x.2.1 x.2.2.1 _).mono ?_)
         rintro e_ w6 ⟨rfl, hb_⟩
         have TW6 := hid (TW5.out.go hb_)
         have BK6 := hid (BK5.out.below hb_ BK5.out.lt)
         clear hb_ TW5 BK5
         refine ⟨_, rfl, ?_⟩
         refine hQ_ _ _ (fun _ => BK6.out) ?_
         clear hQ_ Q'_
         simp only [Act.put, sI, sZ, sS]
         refine sq_act rfl (fun Q'_ hQ_ => ?_)
         refine wl_call 24 #[.pointer (some ⟨g, 0, none⟩), .agg (pv (atK x.2.1 x.2.2.1).1 (atK x.2.1 x.2.2.1).2.1 (atK x.2.1 x.2.2.1).2.2.1 (atK x.2.1 x.2.2.1).2.2.2.1), .int .i64 x.2.2.1, .int .i64 x.2.2.2] (by go_simp) rfl ((TW6.out.put (atK x.2.1 x.2.2.1) (atK_good _ _) x.2.2.2).mono ?_)
         rintro e_ w7 ⟨v_, F7, rfl, tw_, fr_, hf_⟩
         have TW7 := hid tw_
         have BK7 := hid (fr_.blk BK6.out NF1.out)
         clear tw_ fr_ hf_ TW6 BK6
         refine ⟨_, rfl, ?_⟩
         refine hQ_ _ _ (fun _ => BK7.out) ?_
         clear hQ_ Q'_
         change Sq _ _ _ _ _ _ (Act.put _ (some 68) _) _
         simp only [Act.put, sI, sZ, sS]
         refine sq_end ?_
         clear WR64
         go_wp2_with fail
         (try simp only [Act.put, sI, sZ, sS])
         have WR64 := i64_w
         refine sq_region (fun w'_ => Blk w'_ ga 40 (en40 x).toArray) [] [(0, 2), (1, 2), (2, 1), (4, 2), (5, 1), (6, 2), (7, 1), (3, 0), (8, 0)] (by kernel_rfl) (by kernel_rfl) (by kernel_rfl) rfl ?_
         intro w8 hb_
         have TW8 := hid (TW7.out.go hb_)
         have BK8 := hid (BK7.out.below hb_ BK7.out.lt)
         clear hb_ TW7 BK7
         refine sq_pure (.pointer (some ⟨g2, 0, none⟩)) rfl (fun w'_ => by go_simp) rfl rfl ?_
         intro ts_ ht_; simp only [sI, sZ, sS] at ht_; subst ht_
         refine sq_pure (.pointer (some ⟨ga, 1, none⟩)) rfl (fun w'_ => ex_field 40 1 (.pointer (some ⟨ga, 0, none⟩)) (.pointer (some ⟨ga, 1, none⟩)) (t_fa40_1 ga) _ rfl rfl) rfl rfl ?_
         intro ts_ ht_; simp only [sI, sZ, sS] at ht_; subst ht_
         refine sq_take (.int .i64 x.2.1) BK8.out rfl (fun w'_ hS_ => ex_get t_sT3 ga 1 (.int .i64 x.2.1) (en40 x).toArray hS_ rfl _ rfl rfl) rfl rfl ?_
         intro ts_ ht_; simp only [sI, sZ, sS] at ht_; subst ht_
         refine sq_pure (.pointer (some ⟨ga, 2, none⟩)) rfl (fun w'_ => ex_field 40 2 (.pointer (some ⟨ga, 0, none⟩)) (.pointer (some ⟨ga, 2, none⟩)) (t_fa40_2 ga) _ rfl rfl) rfl rfl ?_
         intro ts_ ht_; simp only [sI, sZ, sS] at ht_; subst ht_
         refine sq_take (.int .i64 x.2.2.1) BK8.out rfl (fun w'_ hS_ => ex_get t_sT3 ga 2 (.int .i64 x.2.2.1) (en40 x).toArray hS_ rfl _ rfl rfl) rfl rfl ?_
         intro ts_ ht_; simp only [sI, sZ, sS] at ht_; subst ht_
         refine sq_pure (.pointer (some ⟨ga, 3, none⟩)) rfl (fun w'_ => ex_field 40 3 (.pointer (some ⟨ga, 0, none⟩)) (.pointer (some ⟨ga, 3, none⟩)) (t_fa40_3 ga) _ rfl rfl) rfl rfl ?_
         intro ts_ ht_; simp only [sI, sZ, sS] at ht_; subst ht_
         refine sq_take (.int .i64 x.2.2.2) BK8.out rfl (fun w'_ hS_ => ex_get t_sT3 ga 3 (.int .i64 x.2.2.2) (en40 x).toArray hS_ rfl _ rfl rfl) rfl rfl ?_
         intro ts_ ht_; simp only [sI, sZ, sS] at ht_; subst ht_
         refine sq_act rfl (fun Q'_ hQ_ => ?_)
         refine wl_call 25 #[.int .i64 x.2.1] (by go_simp) rfl ((at_calls x.2.1 x.2.2.1 _).mono ?_)
         rintro e_ w9 ⟨rfl, hb_⟩
         have TW9 := hid (TW8.out.go hb_)
         have BK9 := hid (BK8.out.below hb_ BK8.out.lt)
         clear hb_ TW8 BK8
         refine ⟨_, rfl, ?_⟩
         refine hQ_ _ _ (fun _ => BK9.out) ?_
         clear hQ_ Q'_
         simp only [Act.put, sI, sZ, sS]
         refine sq_act rfl (fun Q'_ hQ_ => ?_)
         refine wl_call 24 #[.pointer (some ⟨g2, 0, none⟩), .agg (pv (atK x.2.1 x.2.2.1).1 (atK x.2.1 x.2.2.1).2.1 (atK x.2.1 x.2.2.1).2.2.1 (atK x.2.1 x.2.2.1).2.2.2.1), .int .i64 x.2.2.1, .int .i64 x.2.2.2] (by go_simp) rfl ((TW9.out.swap.put (atK x.2.1 x.2.2.1) (atK_good _ _) x.2.2.2).mono ?_)
         rintro e_ w10 ⟨v_, F10, rfl, tw_, fr_, hf_⟩
         have TW10 := hid tw_.swap
         have BK10 := hid (fr_.blk BK9.out NF2.out)
         clear tw_ fr_ hf_ TW9 BK9
         refine ⟨_, rfl, ?_⟩
         refine hQ_ _ _ (fun _ => BK10.out) ?_
         clear hQ_ Q'_
         change Sq _ _ _ _ _ _ (Act.put _ (some 77) _) _
         simp only [Act.put, sI, sZ, sS]
         refine sq_end ?_
         clear WR64
         go_wp2_with fail
         go_roundg K1
         case measure => omega
         case rel => exact ⟨_, j + 1, rfl, hid (by have := HJ.out; have := HC.out; have := HL2n.out; rw [k64 (by omega) (by omega)]; omega), hid (by have := HK2.out; omega), hid (by have := HJ.out; have := HC.out; omega), hid ⟨_, _, _, (putZ_len _ _ _).trans HLL.out, TW10.out⟩⟩
        ·
         have cb : decide (x56 < (m.length : Int)) = false := decide_eq_false c
         have HC := hid c
         clear c HC HJ HK2 HJM
         obtain ⟨al, hal_⟩ : ∃ z, l ++ m = z := ⟨_, rfl⟩
         have HAL : Hid (al.length ≤ 200) := hid (by rw [← hal_, List.length_append]; have := HL1n.out; have := HL2n.out; omega)
         have HAE := hid hal_
         clear hal_
         have t5 := True.intro
         have t6 := True.intro
         have t7 := True.intro
         go_wp2_with (first
          | ((with_reducible refine gate_d (N := 79) rfl ?_); clear t5; obtain ⟨gl, hgl⟩ : ∃ g_, wr.heap.size = g_ := ⟨_, rfl⟩; refine ag_litA (e := 40) 0 #[] gl hgl rfl _ rfl (fun w_ => by (try simp only [List.map_toArray, List.map_cons, List.map_nil]); kernel_rfl) ?_; intro w5 hb_ hB_ hs_; have TW5 := hid (TW.out.go (by rw [hgl]; exact hb_)); have OW5 : Hid (OwnN w5 w.heap.size 40 4 (.slice (some ⟨gl, 0, none⟩) 0 0) 0 []) := hid (OwnN.lit (f := en40) [] (m := 0) en40_len (by rw [← hgl]; exact TW.out.below.size) hB_ rfl (by unfold maxLen; omega)); clear hb_ hB_ hs_ hgl TW)
          | ((with_reducible refine gate_d (N := 81) rfl ?_); clear t6; refine app_any (len := 0) (m := l.length) t_eN40 t_aT40.size w.heap.size _ v1 [] (l.flatMap en40) OW5.out (HS1.out.below TW5.out.below) (flat_len en40_len _) (en_one l) (by have := HL1n.out; omega) (by have := HL1n.out; unfold maxLen; omega) TW5.out.below.size rfl _ _ rfl rfl rfl ?_; intro u6 w6 ho_ hb_ hk_; have TW6 := hid (TW5.out.types hk_ hb_); have OW6 : Hid (OwnN w6 w.heap.size 40 4 u6 l.length (l.flatMap en40)) := hid (by have h_ := ho_; rw [Nat.zero_add, List.nil_append] at h_; exact h_); clear ho_ hb_ hk_ TW5 OW5)
          | ((with_reducible refine gate_d (N := 83) rfl ?_); clear t7; refine app_any (len := l.length) (m := m.length) t_eN40 t_aT40.size w.heap.size _ v2 (l.flatMap en40) (m.flatMap en40) OW6.out (HS2.out.below TW6.out.below) (flat_len en40_len _) (en_one m) (by have := HL1n.out; have := HL2n.out; omega) (by have := HL1n.out; have := HL2n.out; unfold maxLen; omega) TW6.out.below.size rfl _ _ rfl rfl rfl ?_; intro u7 w7 ho_ hb_ hk_; have TW7 := hid (TW6.out.types hk_ hb_); have OW7 : Hid (OwnN w7 w.heap.size 40 4 u7 al.length (al.flatMap en40)) := hid (by rw [← HAE.out, List.length_append, List.flatMap_append]; exact ho_); clear ho_ hb_ hk_ TW6 OW6)
          | ((with_reducible refine gate_d (N := 84) rfl ?_); obtain ⟨A7, c7, hv7_⟩ := OW7.out.shape; refine ag_fix (.int .i64 (al.length : Int)) (ex_lenN t_us36 A7 _ c7 _ hv7_ _ rfl rfl) rfl ?_; clear hv7_))
         (try simp only [Act.put, sI, sZ, sS])
         clear HAE
         go_loopg [85] (al.length + 1) (fun kq v85 w' => ∃ (x85 : Int) (j : Nat), v85 = .int .i64 x85 ∧ Hid (x85 = (j : Int)) ∧ Hid (kq + j = al.length + 1) ∧ Hid (j ≤ al.length) ∧ Hid (Two w w' F F2 L L g a g2 a2) ∧ Hid (OwnN w' w.heap.size 40 4 u7 al.length (al.flatMap en40)))
         case atStart => exact ⟨0, 0, (by first | rfl | (simp; done)), hid rfl, hid (by omega), hid (by omega), TW7, OW7⟩
         case round =>
          clear TW7 OW7
          obtain ⟨x85, j, rfl, HJ, HK2, HJM, TW, OW⟩ := hrel
          obtain ⟨K1, rfl⟩ : ∃ K_, gk = K_ + 1 := ⟨gk - 1, by have := HK2.out; have := HJM.out; omega⟩
          by_cases c : x85 < (al.length : Int)
          ·
           have cb : decide (x85 < (al.length : Int)) = true := decide_eq_true c
           have HC := hid c
           clear c
           have HJ0 : Hid (0 ≤ x85) := hid (by have := HJ.out; omega)
           obtain ⟨x, hx_⟩ : ∃ z, nt al x85.toNat z40 = z := ⟨_, rfl⟩
           obtain ⟨ad, c0, hv_, hc_⟩ := SlN.get en40_len OW.out.sl z40 HJ0.out HC.out
           rw [hx_] at hc_
           have HVA := hid hv_
           have HCE := hid hc_
           clear hv_ hc_
           have HX := hid hx_
           clear hx_
           have t4 := True.intro
           go_wp2_with (first
            | ((with_reducible refine gate_d (N := 87) rfl ?_); refine ag_fix (.pointer (some (ad.add (x85.toNat * 4)))) (ex_satN _ _ x85 _ _ HVA.out HJ0.out HC.out t_us36 t_aT40.size _ _ rfl rfl rfl) rfl ?_)
            | ((with_reducible refine gate_d (N := 88) rfl ?_); refine ag_fix (.agg (en40 x).toArray) (ex_ldN t_aT40 _ _ (en40_len x) HCE.out _ rfl rfl) rfl ?_)
            | ((with_reducible refine gate_d (N := 14) rfl ?_); clear t4; obtain ⟨ga, hga⟩ : ∃ g_, wr.heap.size = g_ := ⟨_, rfl⟩; refine ag_alst t_aT40 (en40 x).toArray ga hga rfl (by intro u_ hu_; exact en_one [x] u_ (by simpa using hu_)) rfl rfl 14 rfl _ _ rfl (fun _ => rfl) (fun _ => rfl) rfl ?_; intro w4 hb_ hB_ hs_; have NF1 : Hid (¬ F ga) := hid (fun h_ => by have := TW.out.lt1 ga h_; omega); have NF2 : Hid (¬ F2 ga) := hid (fun h_ => by have := TW.out.lt2 ga h_; omega); have TW4 := hid (TW.out.go (by rw [hga]; exact hb_)); have BKx := hid hB_; have OW4 := hid (OW.out.below (by rw [hga]; exact hb_)); clear OW; clear hb_ hB_ hs_ hga TW HCE))
           (try simp only [Act.put, sI, sZ, sS])
           have BK4 := BKx
           clear BKx
           have WR64 := i64_w
           refine sq_region (fun w'_ => Blk w'_ ga 40 (en40 x).toArray) [] [(0, 2), (1, 2), (2, 1), (4, 2), (5, 1), (3, 0), (6, 0), (7, 2), (8, 2), (9, 2), (10, 2), (11, 2)] (by kernel_rfl) (by kernel_rfl) (by kernel_rfl) rfl ?_
           intro w5 hb_
           have TW5 := hid (TW4.out.go hb_)
           have BK5 := hid (BK4.out.below hb_ BK4.out.lt)
           have OW5 := hid (OW4.out.below hb_)
           clear hb_ TW4 BK4 OW4
           refine sq_pure (.pointer (some ⟨g, 0, none⟩)) rfl (fun w'_ => by go_simp) rfl rfl ?_
           intro ts_ ht_; simp only [sI, sZ, sS] at ht_; subst ht_
           refine sq_pure (.pointer (some ⟨ga, 1, none⟩)) rfl (fun w'_ => ex_field 40 1 (.pointer (some ⟨ga, 0, none⟩)) (.pointer (some ⟨ga, 1, none⟩)) (t_fa40_1 ga) _ rfl rfl) rfl rfl ?_
           intro ts_ ht_; simp only [sI, sZ, sS] at ht_; subst ht_
           refine sq_take (.int .i64 x.2.1) BK5.out rfl (fun w'_ hS_ => ex_get t_sT3 ga 1 (.int .i64 x.2.1) (en40 x).toArray hS_ rfl _ rfl rfl) rfl rfl ?_
           intro ts_ ht_; simp only [sI, sZ, sS] at ht_; subst ht_
           refine sq_pure (.pointer (some ⟨ga, 2, none⟩)) rfl (fun w'_ => ex_field 40 2 (.pointer (some ⟨ga, 0, none⟩)) (.pointer (some ⟨ga, 2, none⟩)) (t_fa40_2 ga) _ rfl rfl) rfl rfl ?_
           intro ts_ ht_; simp only [sI, sZ, sS] at ht_; subst ht_
           refine sq_take (.int .i64 x.2.2.1) BK5.out rfl (fun w'_ hS_ => ex_get t_sT3 ga 2 (.int .i64 x.2.2.1) (en40 x).toArray hS_ rfl _ rfl rfl) rfl rfl ?_
           intro ts_ ht_; simp only [sI, sZ, sS] at ht_; subst ht_
           refine sq_act rfl (fun Q'_ hQ_ => ?_)
           refine wl_call 25 #[.int .i64 x.2.1] (by go_simp) rfl ((at_calls x.2.1 x.2.2.1 _).mono ?_)
           rintro e_ w6 ⟨rfl, hb_⟩
           have TW6 := hid (TW5.out.go hb_)
           have BK6 := hid (BK5.out.below hb_ BK5.out.lt)
           have OW6 := hid (OW5.out.below hb_)
           clear OW5
           clear hb_ TW5 BK5
           refine ⟨_, rfl, ?_⟩
           refine hQ_ _ _ (fun _ => BK6.out) ?_
           clear hQ_ Q'_
           simp only [Act.put, sI, sZ, sS]
           refine sq_act rfl (fun Q'_ hQ_ => ?_)
           refine wl_call 28 #[.pointer (some ⟨g, 0, none⟩), .agg (pv (atK x.2.1 x.2.2.1).1 (atK x.2.1 x.2.2.1).2.1 (atK x.2.1 x.2.2.1).2.2.1 (atK x.2.1 x.2.2.1).2.2.2.1), .int .i64 x.2.2.1] (by go_simp) rfl ((TW6.out.get (atK x.2.1 x.2.2.1) (atK_good _ _)).mono ?_)
           rintro e_ w7 ⟨rfl, tw_, hb_⟩
           have TW7 := hid tw_
           have BK7 := hid (BK6.out.below hb_ BK6.out.lt)
           have OW7 := hid (OW6.out.below hb_)
           clear tw_ hb_ TW6 BK6 OW6
           refine ⟨_, rfl, ?_⟩
           refine hQ_ _ _ (fun _ => BK7.out) ?_
           clear hQ_ Q'_
           change Sq _ _ _ _ _ _ (Act.put _ (some 96) _) _
           simp only [Act.put, sI, sZ, sS]
           refine sq_pure (.tuple #[.int .i64 ((getZ L (atK x.2.1 x.2.2.1)).getD 0), .bool (getZ L (atK x.2.1 x.2.2.1)).isSome]) rfl (fun w'_ => by go_simp) rfl rfl ?_
           intro ts_ ht_; simp only [sI, sZ, sS] at ht_; subst ht_
           refine sq_pure (.int .i64 ((getZ L (atK x.2.1 x.2.2.1)).getD 0)) rfl (fun w'_ => by go_simp) rfl rfl ?_
           intro ts_ ht_; simp only [sI, sZ, sS] at ht_; subst ht_
           refine sq_pure (.bool (getZ L (atK x.2.1 x.2.2.1)).isSome) rfl (fun w'_ => by go_simp) rfl rfl ?_
           intro ts_ ht_; simp only [sI, sZ, sS] at ht_; subst ht_
           refine sq_pure (.int .i64 ((getZ L (atK x.2.1 x.2.2.1)).getD 0)) rfl (fun w'_ => by go_simp) rfl rfl ?_
           intro ts_ ht_; simp only [sI, sZ, sS] at ht_; subst ht_
           refine sq_pure (.bool (getZ L (atK x.2.1 x.2.2.1)).isSome) rfl (fun w'_ => by go_simp) rfl rfl ?_
           intro ts_ ht_; simp only [sI, sZ, sS] at ht_; subst ht_
           refine sq_end ?_
           clear WR64
           go_wp2_with fail
           (try simp only [Act.put, sI, sZ, sS])
           have WR64 := i64_w
           refine sq_region (fun w'_ => Blk w'_ ga 40 (en40 x).toArray) [] [(0, 2), (1, 2), (2, 1), (4, 2), (5, 1), (3, 0), (6, 0), (7, 2), (8, 2), (9, 2), (10, 2), (11, 2)] (by kernel_rfl) (by kernel_rfl) (by kernel_rfl) rfl ?_
           intro w8 hb_
           have TW8 := hid (TW7.out.go hb_)
           have BK8 := hid (BK7.out.below hb_ BK7.out.lt)
           have OW8 := hid (OW7.out.below hb_)
           clear hb_ TW7 BK7 OW7
           refine sq_pure (.pointer (some ⟨g2, 0, none⟩)) rfl (fun w'_ => by go_simp) rfl rfl ?_
           intro ts_ ht_; simp only [sI, sZ, sS] at ht_; subst ht_
           refine sq_pure (.pointer (some ⟨ga, 1, none⟩)) rfl (fun w'_ => ex_field 40 1 (.pointer (some ⟨ga, 0, none⟩)) (.pointer (some ⟨ga, 1, none⟩)) (t_fa40_1 ga) _ rfl rfl) rfl rfl ?_
           intro ts_ ht_; simp only [sI, sZ, sS] at ht_; subst ht_
           refine sq_take (.int .i64 x.2.1) BK8.out rfl (fun w'_ hS_ => ex_get t_sT3 ga 1 (.int .i64 x.2.1) (en40 x).toArray hS_ rfl _ rfl rfl) rfl rfl ?_
           intro ts_ ht_; simp only [sI, sZ, sS] at ht_; subst ht_
           refine sq_pure (.pointer (some ⟨ga, 2, none⟩)) rfl (fun w'_ => ex_field 40 2 (.pointer (some ⟨ga, 0, none⟩)) (.pointer (some ⟨ga, 2, none⟩)) (t_fa40_2 ga) _ rfl rfl) rfl rfl ?_
           intro ts_ ht_; simp only [sI, sZ, sS] at ht_; subst ht_
           refine sq_take (.int .i64 x.2.2.1) BK8.out rfl (fun w'_ hS_ => ex_get t_sT3 ga 2 (.int .i64 x.2.2.1) (en40 x).toArray hS_ rfl _ rfl rfl) rfl rfl ?_
           intro ts_ ht_; simp only [sI, sZ, sS] at ht_; subst ht_
           refine sq_act rfl (fun Q'_ hQ_ => ?_)
           refine wl_call 25 #[.int .i64 x.2.1] (by go_simp) rfl ((at_calls x.2.1 x.2.2.1 _).mono ?_)
           rintro e_ w9 ⟨rfl, hb_⟩
           have TW9 := hid (TW8.out.go hb_)
           have BK9 := hid (BK8.out.below hb_ BK8.out.lt)
           have OW9 := hid (OW8.out.below hb_)
           clear OW8
           clear hb_ TW8 BK8
           refine ⟨_, rfl, ?_⟩
           refine hQ_ _ _ (fun _ => BK9.out) ?_
           clear hQ_ Q'_
           simp only [Act.put, sI, sZ, sS]
           refine sq_act rfl (fun Q'_ hQ_ => ?_)
           refine wl_call 28 #[.pointer (some ⟨g2, 0, none⟩), .agg (pv (atK x.2.1 x.2.2.1).1 (atK x.2.1 x.2.2.1).2.1 (atK x.2.1 x.2.2.1).2.2.1 (atK x.2.1 x.2.2.1).2.2.2.1), .int .i64 x.2.2.1] (by go_simp) rfl ((TW9.out.swap.get (atK x.2.1 x.2.2.1) (atK_good _ _)).mono ?_)
           rintro e_ w10 ⟨rfl, tw_, hb_⟩
           have TW10 := hid tw_.swap
           have BK10 := hid (BK9.out.below hb_ BK9.out.lt)
           have OW10 := hid (OW9.out.below hb_)
           clear tw_ hb_ TW9 BK9 OW9
           refine ⟨_, rfl, ?_⟩
           refine hQ_ _ _ (fun _ => BK10.out) ?_
           clear hQ_ Q'_
           change Sq _ _ _ _ _ _ (Act.put _ (some 106) _) _
           simp only [Act.put, sI, sZ, sS]
           refine sq_pure (.tuple #[.int .i64 ((getZ L (atK x.2.1 x.2.2.1)).getD 0), .bool (getZ L (atK x.2.1 x.2.2.1)).isSome]) rfl (fun w'_ => by go_simp) rfl rfl ?_
           intro ts_ ht_; simp only [sI, sZ, sS] at ht_; subst ht_
           refine sq_pure (.int .i64 ((getZ L (atK x.2.1 x.2.2.1)).getD 0)) rfl (fun w'_ => by go_simp) rfl rfl ?_
           intro ts_ ht_; simp only [sI, sZ, sS] at ht_; subst ht_
           refine sq_pure (.bool (getZ L (atK x.2.1 x.2.2.1)).isSome) rfl (fun w'_ => by go_simp) rfl rfl ?_
           intro ts_ ht_; simp only [sI, sZ, sS] at ht_; subst ht_
           refine sq_pure (.int .i64 ((getZ L (atK x.2.1 x.2.2.1)).getD 0)) rfl (fun w'_ => by go_simp) rfl rfl ?_
           intro ts_ ht_; simp only [sI, sZ, sS] at ht_; subst ht_
           refine sq_pure (.bool (getZ L (atK x.2.1 x.2.2.1)).isSome) rfl (fun w'_ => by go_simp) rfl rfl ?_
           intro ts_ ht_; simp only [sI, sZ, sS] at ht_; subst ht_
           refine sq_end ?_
           clear WR64
           obtain ⟨gv, hgv_⟩ : ∃ z, (getZ L (atK x.2.1 x.2.2.1)).getD 0 = z := ⟨_, rfl⟩
           obtain ⟨gb, hgb_⟩ : ∃ z, (getZ L (atK x.2.1 x.2.2.1)).isSome = z := ⟨_, rfl⟩
           rw [hgv_, hgb_]
           clear hgv_ hgb_
           cases gb
           all_goals (
            go_wp2_with fail
            go_roundg K1
            case measure => omega
            case rel => exact ⟨_, j + 1, rfl, hid (by have := HJ.out; have := HC.out; have := HAL.out; rw [k64 (by omega) (by omega)]; omega), hid (by have := HK2.out; omega), hid (by have := HJ.out; have := HC.out; omega), TW10, OW10⟩)
          ·
           have cb : decide (x85 < (al.length : Int)) = false := decide_eq_false c
           have HC := hid c
           clear c
           have t5 := True.intro
           have t6 := True.intro
           go_wp2_with (first
            | (go_at_call 27; clear t5; refine (TW.out.len).mono ?_; rintro e_ w5 ⟨rfl, rfl⟩)
            | (go_at_call 27; clear t6; refine (TW.out.swap.len).mono ?_; rintro e_ w6 ⟨rfl, rfl⟩))
           (try simp only [Act.put, sI, sZ, sS])
           go_ret
           exact ⟨by first | rfl | (simp; done), TW.out.below⟩
end Go.Proofs.Ytpjocgebnodnoaa
