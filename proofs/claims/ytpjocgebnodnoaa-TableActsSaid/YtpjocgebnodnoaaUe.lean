/- Tables: putting and getting. -/
import Derived.Test.YtpjocgebnodnoaaUd
namespace Go.Proofs.Ytpjocgebnodnoaa
open Go.RowKit
set_option linter.unusedVariables false
set_option linter.unusedSimpArgs false
set_option maxRecDepth 100000
section
variable {P : Program} {ops : Array Oper} {Q : Exit → Act → World → Prop} {S : World → Prop} {nn : List Nat}
/-- the beginning of a schedule, in which nothing acts: what is listed behind it. -/
def preB (ops : Array Oper) (nn : List Nat) : List (Nat × Nat) → Array Bool → Option (Array Bool)
  | [], L => some L
  | (i, 1) :: r, L => if Region.free .any ops L i && (Region.ready .any ops L).contains i && lateB ops nn i then preB ops nn r (L.setIfInBounds i true) else none
  | (i, 2) :: r, L => if Region.free .any ops L i && (Region.ready .any ops L).contains i then preB ops nn r (L.setIfInBounds i true) else none
  | _ :: _, _ => none
theorem pre_sound (hs : Region.noSelect ops = true) (hQ : ∀ c a w, ¬ Q (.panic c) a w) (K : Act → World → Prop) (n : Nat) (L' : Array Bool) (hK : ∀ a w, K a w → wpAnyN P ops Q S nn n L' a w) :
    ∀ (r : List (Nat × Nat)) (L : Array Bool) (a : Act) (w : World), preB ops nn r L = some L' → wpSeq P ops (NoPanic (Only K)) S nn r a w → wpAnyN P ops Q S nn (r.length + n) L a w
  | [], L, a, w, hB, h => by
    obtain rfl := Option.some.inj hB
    rw [List.length_nil, Nat.zero_add]; exact hK a w h.2
  | (i, 1) :: r, L, a, w, hB, h => by
    simp only [preB] at hB
    split at hB
    · rename_i hc
      simp only [Bool.and_eq_true] at hc
      obtain ⟨hS, o, v, ho, hy, h⟩ := h
      have h1 := wpAnyN_first ho (Region.noSelect_spec hs) (fun c a w h0 => absurd h0 (hQ c _ w)) hc.2 (r.length + n) L a w (Region.free_spec ho hc.1.1) (by simpa using hc.1.2) hy hS (pre_sound hs hQ K n L' hK r _ _ _ hB h)
      rw [List.length_cons, show r.length + 1 + n = r.length + n + 1 by omega]; exact h1
    · cases hB
  | (i, 2) :: r, L, a, w, hB, h => by
    simp only [preB] at hB
    split at hB
    · rename_i hc
      simp only [Bool.and_eq_true] at hc
      obtain ⟨o, v, ho, hy, h⟩ := h
      have h1 := wpAnyN_pure ho (Region.noSelect_spec hs) (fun c a w h0 => absurd h0 (hQ c _ w)) (r.length + n) L a w (Region.free_spec ho hc.1) (by simpa using hc.2) hy (pre_sound hs hQ K n L' hK r _ _ _ hB h)
      rw [List.length_cons, show r.length + 1 + n = r.length + n + 1 by omega]; exact h1
    · cases hB
  | (i, 0) :: r, L, a, w, hB, h => by simp [preB] at hB
  | (i, k + 3) :: r, L, a, w, hB, h => by simp [preB] at hB
/-- two operations act, in either order. -/
theorem sq_fork {w : World} {id : Nat} {a : Act} {l : List Oper} (S : World → Prop) (nn : List Nat) (r : List (Nat × Nat)) (i j : Nat) (rA rB : List (Nat × Nat)) (hm : P.follows .mixedOrders = true) (hs : Region.noSelect l.toArray = true)
    (L' : Array Bool) (hB : preB l.toArray nn r (Array.replicate l.length false) = some L') (hr : Region.ready .any l.toArray L' = [i, j]) (hA1 : schedB l.toArray nn rA (L'.setIfInBounds i true) = true) (hB1 : schedB l.toArray nn rB (L'.setIfInBounds j true) = true)
    (hl : r.length + (rA.length + 1) = l.length) (hl2 : rB.length = rA.length)
    (h : ∀ w1, Below w.heap.size w w1 → Sq P l.toArray (Only fun a w => Sq P l.toArray Q S nn ((i, 0) :: rA) a w ∧ Sq P l.toArray Q S nn ((j, 0) :: rB) a w) S nn r a w1) : (Code.region id l.toArray true).wp P Q a w := by
  refine wp_region_noPanic (wp_region_any hm ?_)
  have h1 := (h w.drew (drew_below w)).out
  have := pre_sound (Q := NoPanic Q) hs (fun c a w h => h) _ (rA.length + 1) L' (fun a w hK => ?_) r _ a w.drew hB h1
  · rw [hl] at this
    simpa using wpAny_of_N _ _ _ _ this
  · refine ⟨fun h0 => (by rw [hr] at h0; cases h0), fun k hk => ?_⟩
    rw [hr] at hk
    have hk' : k = i ∨ k = j := by simpa using hk
    rcases hk' with rfl | rfl
    · exact wpOp_mono (fun a' w' h' => ⟨fun _ => h'.1, seq_sound hs (fun c a w h => h) rA _ _ _ hA1 h'.2⟩) hK.1.out
    · exact wpOp_mono (fun a' w' h' => ⟨fun _ => h'.1, by rw [← hl2]; exact seq_sound hs (fun c a w h => h) rB _ _ _ hB1 h'.2⟩) hK.2.out
end
theorem fold_put : ∀ (l : List Value) (k off : Nat) (cs : Array Value), (l.zipIdx k).foldl (fun cs (p : Value × Nat) => cs.setIfInBounds (off + p.2) p.1) cs = putAt l (off + k) cs
  | [], _, _, _ => rfl
  | v :: l, k, off, cs => by simp only [List.zipIdx_cons, List.foldl_cons]; rw [fold_put l (k + 1) off]; rfl
theorem fill_step {place : Nat → Option (Nat × Nat)} {cells cs' : Array Value} {i off size : Nat} {v : Value} {rest : List (Nat × Value)} (hp : place i = some (off, size)) (hs : v.cells.size = size) (hl : off + size ≤ cells.size) (hc : putAt v.cells.toList off cells = cs') : Instr.fill place cells ((i, v) :: rest) = Instr.fill place cs' rest := by
  conv => lhs; unfold Instr.fill
  simp only [hp]
  rw [if_neg (by simp [hs]; omega)]
  congr 1
  rw [← Array.foldl_toList, Array.toList_zipIdx]
  exact (fold_put _ _ _ _).trans hc
theorem b98 (parts : List (Nat × Value)) : Try.prog.built 98 parts = Instr.fill (fun i => ([(0, 67), (67, 1)] : List (Nat × Nat)).toArray[i]?) (keyC (zL, 0, 0, 0, 0)) parts := by kernel_rfl
theorem b102 (parts : List (Nat × Value)) : Try.prog.built 102 parts = Instr.fill (fun i => ([(0, 68), (68, 1)] : List (Nat × Nat)).toArray[i]?) (entC (zL, 0, 0, 0, 0) 0) parts := by kernel_rfl
theorem put_key {q : Key} (h : q.1.length = 64) (c : List Value) (cs cs' : List Value) (hc : c.length ≤ cs.length) (hcs : c ++ cs.drop c.length = cs') : putAt (xv (Value.int .i8) q.1 c).toList 0 (xv (Value.int .i8) zL cs) = xv (Value.int .i8) q.1 cs' := by
  apply Array.ext'
  have hz : zL.length = 64 := rfl
  rw [putAt_list _ _ _ (by unfold xv; simp [h, hz]; omega)]
  subst hcs
  unfold xv
  simp only [List.take_zero, List.nil_append, Nat.zero_add, List.length_append, List.length_map, h, List.append_assoc, List.append_cancel_left_eq]
  rw [List.drop_append, List.drop_eq_nil_of_le (by rw [List.length_map, hz]; omega), List.nil_append, List.length_map, hz, Nat.add_sub_cancel_left]
theorem pos_all {b : List Int} {t c e : Int} (h : b.length = 64) : (pv b t c e).extract 0 (0 + 67) = pv b t c e := by rw [pv_xv]; exact xv_ex h 67 rfl
theorem pos_le {b : List Int} {t c e : Int} (h : b.length = 64) : 0 + 67 ≤ (pv b t c e).size := by rw [pv_xv, xv_size, h]; show 0 + 67 ≤ 64 + 3; omega
theorem build_name {q : Key} (h : q.1.length = 64) (w : World) : (Instr.build 98 #[(0, .agg (pv q.1 q.2.1 q.2.2.1 q.2.2.2.1)), (1, .int .i64 q.2.2.2.2)]).run Try.prog w = .ok (.agg (keyC q)) w := by
  refine run_build w 98 _ _ ?_
  rw [b98]
  rw [fill_step (cs' := keyC (q.1, q.2.1, q.2.2.1, q.2.2.2.1, 0)) (rfl : _ = some (0, 67)) (by show (pv _ _ _ _).size = 67; rw [pv_xv, xv_size, h]; rfl) (by rw [keyC_size rfl]; omega) (by
    show putAt (pv _ _ _ _).toList 0 _ = _
    rw [pv_xv]; exact put_key h _ _ _ (by simp) rfl)]
  rw [fill_step (cs' := keyC q) (rfl : _ = some (67, 1)) rfl (by show 67 + 1 ≤ (keyC (q.1, q.2.1, q.2.2.1, q.2.2.2.1, 0)).size; rw [keyC_size (q := (q.1, q.2.1, q.2.2.1, q.2.2.2.1, 0)) h]; omega) (by
    show (keyC _).setIfInBounds 67 _ = _
    exact xv_setc h 3 67 rfl _)]
  rfl
theorem build_ent {q : Key} (h : q.1.length = 64) (y : Int) (w : World) : (Instr.build 102 #[(0, .agg (keyC q)), (1, .int .i64 y)]).run Try.prog w = .ok (.agg (entC q y)) w := by
  refine run_build w 102 _ _ ?_
  rw [b102]
  rw [fill_step (cs' := entC q 0) (rfl : _ = some (0, 68)) (show (Value.agg (keyC q)).cells.size = 68 from keyC_size h) (by rw [entC_size rfl]; omega) (show putAt (keyC q).toList 0 (entC (zL, 0, 0, 0, 0) 0) = entC q 0 from put_key h _ _ _ (by simp) rfl)]
  rw [fill_step (cs' := entC q y) (rfl : _ = some (68, 1)) rfl (by show 68 + 1 ≤ (entC q 0).size; rw [entC_size h]; omega) (by
    show (entC q 0).setIfInBounds 68 _ = _
    exact xv_setc h 4 68 rfl _)]
  rfl
theorem ent_set {q : Key} {x y : Int} (h : q.1.length = 64) : (entC q x).setIfInBounds 68 (.int .i64 y) = entC q y := xv_setc h 4 68 rfl _
theorem key_one (q : Key) : ∀ v ∈ (keyC q).toList, v.oneCell' = true := xv_one (fun _ => rfl) (by intro v hv; simp at hv; rcases hv with rfl | rfl | rfl | rfl <;> rfl)
theorem found_at {L : Slots} {q : Key} {i : Nat} (h : findZ_ L q = some i) : ∃ x, nt L i none = some (q, x) := by
  have h1 := List.find?_some h
  unfold atB at h1
  split at h1
  · rename_i q' x hx; exact ⟨x, by rw [hx, of_decide_eq_true h1]⟩
  · cases h1
/-- a value is put. -/
def putZ (L : Slots) (q : Key) (y : Int) : Slots := L.set ((findZ_ L q).getD (roomZ L q)) (some (q, y))
/-- what is got. -/
def getZ (L : Slots) (q : Key) : Option Int := (findZ_ L q).bind fun i => (nt L i none).map (·.2)
def PutPost (w : World) (F : Nat → Prop) (L : Slots) (g a : Nat) (q : Key) (y : Int) (w' : World) : Prop := ∃ F' ps', TBx w' F' (putZ L q y) g a ps' ∧ (∀ k, F' k → F k ∨ w.heap.size ≤ k) ∧ Fr F w w'
theorem put_some {w w2 w3 : World} {F : Nat → Prop} {L : Slots} {g a b i : Nat} {ps : Array Value} {q : Key} {y : Int} (h : TBx w2 F L g a ps) (hb : Below w.heap.size w w2) (hlt : ∀ k, F k → k < w.heap.size) (hf : findZ_ L q = some i) (hi : i < L.length) (hp : ps[i]? = some (.pointer (some ⟨b, 0, none⟩))) (ho : Off b w2 w3) (hB : Blk w3 b 102 (entC q y)) : PutPost w F L g a q y w3 := by
  obtain ⟨x, hx⟩ := found_at hf
  refine ⟨F, ps, ?_, fun k hk => .inl hk, ?_⟩
  · unfold putZ; rw [hf]; exact h.tell hi hx hp ho hB
  · obtain ⟨b', h1, h2, h3, h4⟩ := h.some_ i q x hi hx
    obtain rfl : b' = b := by rw [hp] at h1; injection h1 with h1; injection h1 with h1; injection h1 with h1; injection h1 with h1; exact h1.symm
    exact ⟨ho.os.trans hb.os, ho.tape.trans hb.tape, ho.output.trans hb.output, by rw [ho.size]; exact hb.size, fun k hk hn => (ho.block k (fun e => hn (e ▸ h3))).trans (hb.block k hk)⟩
theorem put_none {w w2 w3 : World} {F : Nat → Prop} {L : Slots} {g a b : Nat} {ps : Array Value} {q : Key} {y : Int} (h : TBx w2 F L g a ps) (hq : q.1.length = 64) (hb : Below w.heap.size w w2) (hlt : ∀ k, F k → k < w.heap.size) (hf : findZ_ L q = none) (hw : w.heap.size ≤ b) (hB : Blk w2 b 102 (entC q y)) (ho : Off a w2 w3) (hP : Blk w3 a 99 (ps.setIfInBounds (roomZ L q) (.pointer (some ⟨b, 0, none⟩)))) : PutPost w F L g a q y w3 := by
  refine ⟨fun k => F k ∨ k = b, ps.setIfInBounds (roomZ L q) (.pointer (some ⟨b, 0, none⟩)), ?_, fun k hk => ?_, ?_⟩
  · unfold putZ; rw [hf]; exact h.take_ (roomZ_lt q h.pos) hq hB (fun hfb => by have := hlt b hfb; omega) ho hP
  · rcases hk with hk | rfl
    · exact .inl hk
    · exact .inr hw
  · exact ⟨ho.os.trans hb.os, ho.tape.trans hb.tape, ho.output.trans hb.output, by rw [ho.size]; exact hb.size, fun k hk hn => (ho.block k (fun e => hn (e ▸ h.fa))).trans (hb.block k hk)⟩
theorem get_is {w : World} {F : Nat → Prop} {L : Slots} {g a b i : Nat} {ps : Array Value} {q : Key} (h : TBx w F L g a ps) (hf : findZ_ L q = some i) (hi : i < L.length) (hp : ps[i]? = some (.pointer (some ⟨b, 0, none⟩))) : ∃ x, getZ L q = some x ∧ Blk w b 102 (entC q x) := by
  obtain ⟨x, hx⟩ := found_at hf
  obtain ⟨b', h1, h2, h3, h4⟩ := h.some_ i q x hi hx
  obtain rfl : b' = b := by rw [hp] at h1; injection h1 with h1; injection h1 with h1; injection h1 with h1; injection h1 with h1; exact h1.symm
  exact ⟨x, by unfold getZ; rw [hf]; simp [hx], h2⟩
set_option maxHeartbeats 40000000 in
theorem put_calls {w : World} {F : Nat → Prop} {L : Slots} {g a : Nat} {ps : Array Value} (h : TBx w F L g a ps) (q : Key) (hq : GoodKey q) (y : Int) :
    Calls Try.prog 24 #[.pointer (some ⟨g, 0, none⟩), .agg (pv q.1 q.2.1 q.2.2.1 q.2.2.2.1), .int .i64 q.2.2.2.2, .int .i64 y] w fun e w' => ∃ v, e = .returned v ∧ PutPost w F L g a q y w' := by
 have HL := hid (Below.refl w.heap.size w)
 have TB := hid h
 have HQ := hid hq.1
 have HGK := hid hq
 have HLT := hid h.lt
 have HRL := hid (roomZ_lt q h.pos)
 clear h hq
 go_enter Try.func24, Try.ntmps24
 have k1 := True.intro
 have k2 := True.intro
 go_wp2_with (first
  | ((with_reducible refine gate_d (N := 5) rfl ?_); clear k1; obtain ⟨g5, hg5⟩ : ∃ g_, w.heap.size = g_ := ⟨_, rfl⟩; refine ag_box (pv q.1 q.2.1 q.2.2.1 q.2.2.2.1) g5 hg5 rfl _ rfl rfl ?_; intro w1 hb_ hB_ hs_; have HL1 := hid (HL.out.trans (hb_.mono (by rw [← hg5]; exact HL.out.size))); have TB1 := hid (TB.out.below (by rw [hg5]; exact hb_)); have BK5 := hid hB_; clear hb_ hB_ hs_ hg5 HL TB)
  | ((with_reducible refine gate_d (N := 12) rfl ?_); refine ag_fix (.agg (pv q.1 q.2.1 q.2.2.1 q.2.2.2.1)) (ex_load posT g5 0 (pv q.1 q.2.1 q.2.2.1 q.2.2.2.1) (pv q.1 q.2.1 q.2.2.1 q.2.2.2.1) BK5.out (pos_le HQ.out) (pos_all HQ.out) _ rfl rfl) rfl ?_)
  | ((with_reducible refine gate_d (N := 14) rfl ?_); refine ag_fix (.agg (keyC q)) (ex_build _ _ rfl (fun w_ => by simp only [List.map_toArray, List.map_cons, List.map_nil]; exact build_name HQ.out w_)) rfl ?_)
  | ((with_reducible refine gate_d (N := 8) rfl ?_); clear k2; obtain ⟨gn, hgn⟩ : ∃ g_, w1.heap.size = g_ := ⟨_, rfl⟩; refine ag_alst t_aT98 (keyC q) gn hgn (keyC_size HQ.out) (key_one q) rfl rfl 8 rfl _ _ rfl (fun _ => rfl) (fun _ => rfl) rfl ?_; intro w2 hb_ hB_ hs_; have HL2 := hid (HL1.out.trans (hb_.mono (by rw [← hgn]; exact HL1.out.size))); have TB2 := hid (TB1.out.below (by rw [hgn]; exact hb_)); have BKn := hid hB_; clear hb_ hB_ hs_ hgn HL1 TB1 BK5)
  | ((with_reducible refine gate_d (N := 16) rfl ?_); refine ag_fix (.agg (keyC q)) (ex_load t_aT98 gn 0 (keyC q) (keyC q) BKn.out (by rw [keyC_size HQ.out]; omega) (key_all HQ.out) _ rfl rfl) rfl ?_))
 (try simp only [Act.put, sI, sZ, sS])
 go_at_call 56
 refine (find_calls TB2.out q HGK.out).mono ?_
 rintro e_ w3 ⟨p_, rfl, fo_, hb_⟩
 have HL3 := hid (HL2.out.trans (hb_.mono HL2.out.size))
 have TB3 := hid (TB2.out.below hb_)
 have BKn3 := hid (BKn.out.below hb_ BKn.out.lt)
 clear hb_ HL2 TB2 BKn
 rcases fo_ with ⟨hf_, rfl⟩ | ⟨i_, b, hf_, hi_, rfl, hp_⟩
 ·
  have HF := hid hf_
  clear hf_
  go_wp2_with fail
  have WR64 := i64_w
  refine sq_fork (fun w'_ => Blk w'_ g 96 #[.slice (some ⟨a, 0, none⟩) L.length L.length] ∧ Blk w'_ gn 98 (keyC q)) [12] [(0, 2), (1, 2), (2, 2), (3, 1), (4, 2), (5, 1), (7, 1), (8, 2), (9, 2)] 6 10 [(10, 0), (11, 2), (12, 0)] [(6, 0), (11, 2), (12, 0)] (by kernel_rfl) (by kernel_rfl) #[true, true, true, true, true, true, false, true, true, true, false, false, false] (by kernel_rfl) (by kernel_rfl) (by kernel_rfl) (by kernel_rfl) rfl rfl ?_
  intro w4 hb_
  have HL4 := hid (HL3.out.trans (hb_.mono HL3.out.size))
  have TB4 := hid (TB3.out.below hb_)
  have BKn4 := hid (BKn3.out.below hb_ BKn3.out.lt)
  clear hb_ HL3 TB3 BKn3
  refine sq_pure (.pointer (some ⟨g, 0, none⟩)) rfl (fun w'_ => by go_simp) rfl rfl ?_
  intro ts_ ht_; simp only [sI, sZ, sS] at ht_; subst ht_
  refine sq_pure (.pointer (some ⟨g, 0, none⟩)) rfl (fun w'_ => by go_simp) rfl rfl ?_
  intro ts_ ht_; simp only [sI, sZ, sS] at ht_; subst ht_
  refine sq_pure (.pointer (some ⟨g, 0, none⟩)) rfl (fun w'_ => ex_field 96 0 (.pointer (some ⟨g, 0, none⟩)) (.pointer (some ⟨g, 0, none⟩)) (t_fa96_0 g) _ rfl rfl) rfl rfl ?_
  intro ts_ ht_; simp only [sI, sZ, sS] at ht_; subst ht_
  refine sq_take (.slice (some ⟨a, 0, none⟩) L.length L.length) ⟨TB4.out.tab, BKn4.out⟩ rfl (fun w'_ hS_ => ex_get t_sT94 g 0 (.slice (some ⟨a, 0, none⟩) L.length L.length) #[.slice (some ⟨a, 0, none⟩) L.length L.length] hS_.1 rfl _ rfl rfl) rfl rfl ?_
  intro ts_ ht_; simp only [sI, sZ, sS] at ht_; subst ht_
  refine sq_pure (.pointer (some ⟨g, 0, none⟩)) rfl (fun w'_ => by go_simp) rfl rfl ?_
  intro ts_ ht_; simp only [sI, sZ, sS] at ht_; subst ht_
  refine sq_take (.agg (keyC q)) ⟨TB4.out.tab, BKn4.out⟩ rfl (fun w'_ hS_ => ex_load t_aT98 gn 0 (keyC q) (keyC q) hS_.2 (by rw [keyC_size HQ.out]; omega) (key_all HQ.out) _ rfl rfl) rfl rfl ?_
  intro ts_ ht_; simp only [sI, sZ, sS] at ht_; subst ht_
  refine sq_take (.agg (keyC q)) ⟨TB4.out.tab, BKn4.out⟩ rfl (fun w'_ hS_ => ex_load t_aT98 gn 0 (keyC q) (keyC q) hS_.2 (by rw [keyC_size HQ.out]; omega) (key_all HQ.out) _ rfl rfl) rfl rfl ?_
  intro ts_ ht_; simp only [sI, sZ, sS] at ht_; subst ht_
  refine sq_pure (.int .i64 y) rfl (fun w'_ => by go_simp) rfl rfl ?_
  intro ts_ ht_; simp only [sI, sZ, sS] at ht_; subst ht_
  refine sq_pure (.agg (entC q y)) rfl (fun w'_ => ex_build _ _ rfl (fun w_ => by simp only [List.map_toArray, List.map_cons, List.map_nil]; exact build_ent HQ.out y w_)) rfl rfl ?_
  intro ts_ ht_; simp only [sI, sZ, sS] at ht_; subst ht_
  refine sq_end ⟨rfl, ?_, ?_⟩
  ·
   refine sq_act rfl (fun Q'_ hQ_ => ?_)
   refine wl_call 57 #[.pointer (some ⟨g, 0, none⟩), .agg (keyC q)] (by go_simp) rfl ((room_calls TB4.out q HGK.out).mono ?_)
   rintro e_ w5 ⟨rfl, hb_⟩
   have HL5 := hid (HL4.out.trans (hb_.mono HL4.out.size))
   have TB5 := hid (TB4.out.below hb_)
   have BKn5 := hid (BKn4.out.below hb_ BKn4.out.lt)
   clear hb_ HL4 TB4 BKn4
   refine ⟨_, rfl, ?_⟩
   refine hQ_ _ _ (fun _ => ⟨TB5.out.tab, BKn5.out⟩) ?_
   clear hQ_ Q'_
   simp only [Act.put, sI, sZ, sS]
   refine sq_act rfl (fun Q'_ hQ_ => ?_)
   obtain ⟨ge, hge⟩ : ∃ g_, w5.heap.size = g_ := ⟨_, rfl⟩
   refine ag_box (entC q y) ge hge rfl _ rfl rfl ?_
   intro w6 hb_ hB_ hs_
   have HGE : Hid (w.heap.size ≤ ge) := hid (by rw [← hge]; exact HL5.out.size)
   have HL6 := hid (HL5.out.trans (hb_.mono HGE.out))
   have TB6 := hid (TB5.out.below (by rw [hge]; exact hb_))
   have BKn6 := hid (BKn5.out.below hb_ (by have := BKn5.out.lt; omega))
   have BKe6 := hid hB_
   clear hb_ hB_ hs_ hge HL5 TB5 BKn5
   refine act_end ?_
   refine hQ_ _ _ (fun _ => ⟨TB6.out.tab, BKn6.out⟩) ?_
   clear hQ_ Q'_
   simp only [Act.put, sI, sZ, sS]
   refine sq_pure (.pointer (some ⟨a, roomZ L q, none⟩)) rfl (fun w'_ => ex_satA a _ _ ((roomZ L q : Nat) : Int) (roomZ L q) rfl HRL.out t_us94 t_sT99 _ _ rfl rfl rfl) rfl rfl ?_
   intro ts_ ht_; simp only [sI, sZ, sS] at ht_; subst ht_
   refine sq_act rfl (fun Q'_ hQ_ => ?_)
   refine ag_set t_sT99 a (roomZ L q) (.pointer (some ⟨ge, 0, none⟩)) ps (ps.setIfInBounds (roomZ L q) (.pointer (some ⟨ge, 0, none⟩))) TB6.out.row (by rw [TB6.out.size]; exact HRL.out) rfl rfl rfl rfl _ _ rfl rfl rfl ?_
   intro w7 ho_ hB_
   have PP := hid (put_none TB6.out HQ.out HL6.out HLT.out HF.out HGE.out BKe6.out ho_ hB_)
   clear ho_ hB_
   refine act_end ?_
   refine hQ_ _ _ (fun h_ => absurd h_ (by decide)) ?_
   clear hQ_ Q'_
   simp only [Act.put]
   refine sq_end ?_
   clear WR64
   go_wp2_with fail
   go_end0
   exact ⟨_, rfl, PP.out⟩
  ·
   refine sq_act rfl (fun Q'_ hQ_ => ?_)
   obtain ⟨ge, hge⟩ : ∃ g_, w4.heap.size = g_ := ⟨_, rfl⟩
   refine ag_box (entC q y) ge hge rfl _ rfl rfl ?_
   intro w5 hb_ hB_ hs_
   have HGE : Hid (w.heap.size ≤ ge) := hid (by rw [← hge]; exact HL4.out.size)
   have HL5 := hid (HL4.out.trans (hb_.mono HGE.out))
   have TB5 := hid (TB4.out.below (by rw [hge]; exact hb_))
   have BKn5 := hid (BKn4.out.below hb_ (by have := BKn4.out.lt; omega))
   have BKe5 := hid hB_
   clear hb_ hB_ hs_ hge HL4 TB4 BKn4
   refine act_end ?_
   refine hQ_ _ _ (fun _ => ⟨TB5.out.tab, BKn5.out⟩) ?_
   clear hQ_ Q'_
   simp only [Act.put, sI, sZ, sS]
   refine sq_act rfl (fun Q'_ hQ_ => ?_)
   refine wl_call 57 #[.pointer (some ⟨g, 0, none⟩), .agg (keyC q)] (by go_simp) rfl ((room_calls TB5.out q HGK.out).mono ?_)
   rintro e_ w6 ⟨rfl, hb_⟩
   have HL6 := hid (HL5.out.trans (hb_.mono HL5.out.size))
   have TB6 := hid (TB5.out.below hb_)
   have BKn6 := hid (BKn5.out.below hb_ BKn5.out.lt)
   have BKe6 := hid (BKe5.out.below hb_ BKe5.out.lt)
   clear hb_ HL5 TB5 BKn5
   refine ⟨_, rfl, ?_⟩
   refine hQ_ _ _ (fun _ => ⟨TB6.out.tab, BKn6.out⟩) ?_
   clear hQ_ Q'_
   simp only [Act.put, sI, sZ, sS]
   refine sq_pure (.pointer (some ⟨a, roomZ L q, none⟩)) rfl (fun w'_ => ex_satA a _ _ ((roomZ L q : Nat) : Int) (roomZ L q) rfl HRL.out t_us94 t_sT99 _ _ rfl rfl rfl) rfl rfl ?_
   intro ts_ ht_; simp only [sI, sZ, sS] at ht_; subst ht_
   refine sq_act rfl (fun Q'_ hQ_ => ?_)
   refine ag_set t_sT99 a (roomZ L q) (.pointer (some ⟨ge, 0, none⟩)) ps (ps.setIfInBounds (roomZ L q) (.pointer (some ⟨ge, 0, none⟩))) TB6.out.row (by rw [TB6.out.size]; exact HRL.out) rfl rfl rfl rfl _ _ rfl rfl rfl ?_
   intro w7 ho_ hB_
   have PP := hid (put_none TB6.out HQ.out HL6.out HLT.out HF.out HGE.out BKe6.out ho_ hB_)
   clear ho_ hB_
   refine act_end ?_
   refine hQ_ _ _ (fun h_ => absurd h_ (by decide)) ?_
   clear hQ_ Q'_
   simp only [Act.put]
   refine sq_end ?_
   clear WR64
   go_wp2_with fail
   go_end0
   exact ⟨_, rfl, PP.out⟩
 ·
  have HF := hid hf_
  have HI := hid hi_
  have HP := hid hp_
  have HX : Hid (∃ x, nt L i_ none = some (q, x)) := hid (found_at hf_)
  obtain ⟨x, hx_⟩ := HX.out
  obtain ⟨b', h1_, h2_, _, _⟩ := TB3.out.some_ i_ q x hi_ hx_
  obtain rfl : b' = b := by rw [hp_] at h1_; injection h1_ with h1_; injection h1_ with h1_; injection h1_ with h1_; injection h1_ with h1_; exact h1_.symm
  have BKb := hid h2_
  clear hf_ hi_ hp_ h1_ h2_ hx_ HX
  have k3 := True.intro
  go_wp2_with (first
   | ((with_reducible refine gate_d (N := 23) rfl ?_); refine ag_fix (.pointer (some ⟨b', 68, none⟩)) (ex_field 102 1 (.pointer (some ⟨b', 0, none⟩)) (.pointer (some ⟨b', 68, none⟩)) (t_fa102_1 b') _ rfl rfl) rfl ?_)
   | (refine ag_set t_sT3 b' 68 (.int .i64 y) (entC q x) (entC q y) BKb.out (by rw [entC_size HQ.out]; omega) rfl rfl (ent_set HQ.out) rfl _ _ rfl rfl rfl ?_; clear k3; intro w4 ho_ hB_; have OF := hid ho_; have BK4 := hid hB_; clear ho_ hB_))
  (try simp only [Act.put, sI, sZ, sS])
  refine bodyPost_ret (results_none rfl _ _ _) rfl ?_
  exact ⟨_, rfl, put_some TB3.out HL3.out HLT.out HF.out HI.out HP.out OF.out BK4.out⟩
set_option maxHeartbeats 40000000 in
theorem get_calls {w : World} {F : Nat → Prop} {L : Slots} {g a : Nat} {ps : Array Value} (h : TBx w F L g a ps) (q : Key) (hq : GoodKey q) :
    Calls Try.prog 28 #[.pointer (some ⟨g, 0, none⟩), .agg (pv q.1 q.2.1 q.2.2.1 q.2.2.2.1), .int .i64 q.2.2.2.2] w fun e w' => e = .returned (.tuple #[.int .i64 ((getZ L q).getD 0), .bool (getZ L q).isSome]) ∧ Below w.heap.size w w' := by
 have HL := hid (Below.refl w.heap.size w)
 have TB := hid h
 have HQ := hid hq.1
 have HGK := hid hq
 clear h hq
 go_enter Try.func28, Try.ntmps28
 have k1 := True.intro
 go_wp2_with (first
  | ((with_reducible refine gate_d (N := 4) rfl ?_); clear k1; obtain ⟨g5, hg5⟩ : ∃ g_, w.heap.size = g_ := ⟨_, rfl⟩; refine ag_box (pv q.1 q.2.1 q.2.2.1 q.2.2.2.1) g5 hg5 rfl _ rfl rfl ?_; intro w1 hb_ hB_ hs_; have HL1 := hid (HL.out.trans (hb_.mono (by rw [← hg5]; exact HL.out.size))); have TB1 := hid (TB.out.below (by rw [hg5]; exact hb_)); have BK5 := hid hB_; clear hb_ hB_ hs_ hg5 HL TB)
  | ((with_reducible refine gate_d (N := 12) rfl ?_); refine ag_fix (.agg (pv q.1 q.2.1 q.2.2.1 q.2.2.2.1)) (ex_load posT g5 0 (pv q.1 q.2.1 q.2.2.1 q.2.2.2.1) (pv q.1 q.2.1 q.2.2.1 q.2.2.2.1) BK5.out (pos_le HQ.out) (pos_all HQ.out) _ rfl rfl) rfl ?_)
  | ((with_reducible refine gate_d (N := 14) rfl ?_); refine ag_fix (.agg (keyC q)) (ex_build _ _ rfl (fun w_ => by simp only [List.map_toArray, List.map_cons, List.map_nil]; exact build_name HQ.out w_)) rfl ?_))
 (try simp only [Act.put, sI, sZ, sS])
 go_at_call 56
 refine (find_calls TB1.out q HGK.out).mono ?_
 rintro e_ w3 ⟨p_, rfl, fo_, hb_⟩
 have HL3 := hid (HL1.out.trans (hb_.mono HL1.out.size))
 have TB3 := hid (TB1.out.below hb_)
 clear hb_ HL1 TB1 BK5
 rcases fo_ with ⟨hf_, rfl⟩ | ⟨i_, b, hf_, hi_, rfl, hp_⟩
 ·
  have HG : Hid (getZ L q = none) := hid (by unfold getZ; rw [hf_]; rfl)
  clear hf_
  go_wp2_with fail
  go_ret2
  exact ⟨by rw [HG.out]; rfl, HL3.out⟩
 ·
  obtain ⟨x, hx_, hb_⟩ := get_is TB3.out hf_ hi_ hp_
  have HG := hid hx_
  have BKb := hid hb_
  clear hf_ hi_ hp_ hx_ hb_
  go_wp2_with (first
   | ((with_reducible refine gate_d (N := 20) rfl ?_); refine ag_fix (.pointer (some ⟨b, 68, none⟩)) (ex_field 102 1 (.pointer (some ⟨b, 0, none⟩)) (.pointer (some ⟨b, 68, none⟩)) (t_fa102_1 b) _ rfl rfl) rfl ?_)
   | ((with_reducible refine gate_d (N := 21) rfl ?_); refine ag_fix (.int .i64 x) (ex_get t_sT3 b 68 (.int .i64 x) (entC q x) BKb.out (ent_value HQ.out) _ rfl rfl) rfl ?_))
  (try simp only [Act.put, sI, sZ, sS])
  go_ret2
  exact ⟨by rw [HG.out]; rfl, HL3.out⟩
end Go.Proofs.Ytpjocgebnodnoaa
