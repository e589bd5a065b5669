/- Tables: positions by number; the example; no table. -/
import Derived.Test.YtpjocgebnodnoaaUf
namespace Go.Proofs.Ytpjocgebnodnoaa
open Go.RowKit
set_option linter.unusedVariables false
set_option linter.unusedSimpArgs false
set_option maxRecDepth 100000
theorem mix_some (a : Int) : ∃ r, i_key_Mix.f a = some r := ⟨_, rfl⟩
theorem man_some (a b : Int) : ∃ r, i_key_man.f a b = some r := by
  unfold i_key_man.f
  split
  · exact ⟨_, rfl⟩
  · obtain ⟨r, hr⟩ := mix_some (IntKind.u64.wrap (wrap64 ((wrap64 ((wrap64 (16 * a)) + (wrap64 b))) + 8)))
    rw [hr]; exact ⟨r, rfl⟩
theorem of_some (b : List Int) : ∀ (m k : Nat) (x s : Int), s = 64 - (m : Int) → m ≤ 64 → m < k → ∃ r, i_key_Of.l0 k b x s = some r
  | 0, 0, _, _, _, _, h => absurd h (by omega)
  | 0, k + 1, x, s, hs, _, _ => by
    rw [i_key_Of.l0, if_neg (by omega)]; exact ⟨_, rfl⟩
  | m + 1, 0, _, _, _, _, h => absurd h (by omega)
  | m + 1, k + 1, x, s, hs, hm, hk => by
    rw [i_key_Of.l0, if_pos (by omega), if_pos (by omega)]
    obtain ⟨r, hr⟩ := man_some s (nt b s.toNat 0)
    rw [hr, Option.bind_some]
    have e : wrap64 (s + 1) = s + 1 := k64 (by omega) (by omega)
    rw [e]
    exact of_some b m k _ _ (by omega) (by omega) (by omega)
theorem rest0_end (k : Nat) (c e x : Int) : ∃ r, i_key_rest.l0 (k + 1) c e x 16 = some r := by
  rw [i_key_rest.l0, if_neg (by omega)]
  split
  · obtain ⟨r, hr⟩ := mix_some (IntKind.u64.wrap (1056 + (IntKind.u64.wrap e)))
    rw [hr]; exact ⟨_, rfl⟩
  · exact ⟨_, rfl⟩
theorem rest0_on (k : Nat) (c e p p' : Int) (hp : p ≤ 8) (he : wrap64 (p * 2) = p') (h : ∀ x, ∃ r, i_key_rest.l0 k c e x p' = some r) (x : Int) : ∃ r, i_key_rest.l0 (k + 1) c e x p = some r := by
  subst he; rw [i_key_rest.l0, if_pos hp]
  split
  · exact h _
  · obtain ⟨r, hr⟩ := mix_some (IntKind.u64.wrap (wrap64 (1032 + p)))
    rw [hr]; exact h _
theorem rest1_end (k : Nat) (c e x : Int) : ∃ r, i_key_rest.l1 (k + 1) c e x 16 = some r := by
  rw [i_key_rest.l1, if_neg (by omega)]
  split
  · obtain ⟨r, hr⟩ := mix_some (IntKind.u64.wrap (1056 + (IntKind.u64.wrap e)))
    rw [hr]; exact ⟨_, rfl⟩
  · exact ⟨_, rfl⟩
theorem rest1_on (k : Nat) (c e p p' : Int) (hp : p ≤ 8) (he : wrap64 (p * 2) = p') (h : ∀ x, ∃ r, i_key_rest.l1 k c e x p' = some r) (x : Int) : ∃ r, i_key_rest.l1 (k + 1) c e x p = some r := by
  subst he; rw [i_key_rest.l1, if_pos hp]
  split
  · exact h _
  · obtain ⟨r, hr⟩ := mix_some (IntKind.u64.wrap (wrap64 (1032 + p)))
    rw [hr]; exact h _
theorem rest_some (b : List Int) (t c e : Int) : ∃ r, i_key_rest.f 200 b t c e = some r := by
  unfold i_key_rest.f
  split
  · obtain ⟨r, hr⟩ := mix_some 1024
    rw [hr, Option.bind_some]
    exact rest0_on 199 c e 1 2 (by omega) (by decide +kernel) (fun x => rest0_on 198 c e 2 4 (by omega) (by decide +kernel) (fun x => rest0_on 197 c e 4 8 (by omega) (by decide +kernel) (fun x => rest0_on 196 c e 8 16 (by omega) (by decide +kernel) (fun x => rest0_end 195 c e x) x) x) x) _
  · exact rest1_on 199 c e 1 2 (by omega) (by decide +kernel) (fun x => rest1_on 198 c e 2 4 (by omega) (by decide +kernel) (fun x => rest1_on 197 c e 4 8 (by omega) (by decide +kernel) (fun x => rest1_on 196 c e 8 16 (by omega) (by decide +kernel) (fun x => rest1_end 195 c e x) x) x) x) _
/-- every position has its key. -/
theorem good_key {q : Key} (h : q.1.length = 64) : GoodKey q := by
  refine ⟨h, ?_⟩
  obtain ⟨r, hr⟩ := rest_some q.1 q.2.1 q.2.2.1 q.2.2.2.1
  obtain ⟨r2, hr2⟩ := of_some q.1 64 200 r 0 (by omega) (by omega) (by omega)
  have e : i_key_Of.f 200 q.1 q.2.1 q.2.2.1 q.2.2.2.1 = some r2 := by unfold i_key_Of.f; rw [hr, Option.bind_some, hr2]
  rw [e]; unfold keyZ; rw [e]; rfl
def firstB : List Int := ((i_pos_First.f 200).getD (zL, 0, 0, 0)).1
theorem first_some : (i_pos_First.f 200).map (fun r => decide (r.1.length = 64)) = some true := by decide +kernel
theorem first_is : ∃ t c e, i_pos_First.f 200 = some (firstB, t, c, e) ∧ firstB.length = 64 := by
  have h := first_some
  unfold firstB
  cases hf : i_pos_First.f 200 with
  | none => rw [hf] at h; cases h
  | some r =>
    rw [hf] at h
    simp only [Option.map_some, Option.some.injEq, decide_eq_true_eq] at h
    exact ⟨r.2.1, r.2.2.1, r.2.2.2, rfl, h⟩
/-- the position of a number, a depth. -/
def atK (n d : Int) : Key := (firstB, Go.bits .and .i64 n 1, Go.bits .and .i64 (n / 2) 15, Go.bits .and .i64 (n / 32) 63, d)
theorem atK_good (n d : Int) : GoodKey (atK n d) := good_key (by obtain ⟨_, _, _, _, h⟩ := first_is; exact h)
theorem at_calls (n d : Int) (w : World) : Calls Try.prog 25 #[.int .i64 n] w fun e w' => e = .returned (.agg (pv (atK n d).1 (atK n d).2.1 (atK n d).2.2.1 (atK n d).2.2.2.1)) ∧ Below w.heap.size w w' := by
  obtain ⟨t, c, e, h, _⟩ := first_is
  exact (i_alfillaw18_at.calls 200 n _ _ _ _ w (by unfold i_alfillaw18_at.f; rw [h]; rfl)).mono fun e w' hh => ⟨hh.1, hh.2.2⟩
theorem w_get1 : getZ (putZ (emptyZ 1) (atK 0 1) 7) (atK 0 1) = some 7 := by decide +kernel
theorem w_get2 : getZ (putZ (emptyZ 1) (atK 0 1) 7) (atK 0 2) = none := by decide +kernel
theorem w_places : placesZ 1 = 1 := by decide
set_option maxHeartbeats 40000000 in
theorem wakes_calls (w : World) : Calls Try.prog 22 #[] w fun e w' => e = .returned (.bool true) ∧ Below w.heap.size w w' := by
 have HL := hid (Below.refl w.heap.size w)
 go_enter Try.func22, Try.ntmps22
 have k1 := True.intro
 have k2 := True.intro
 have k3 := True.intro
 have k4 := True.intro
 have k5 := True.intro
 have k6 := True.intro
 have k7 := True.intro
 go_wp2_with (first
  | (go_at_call 23; clear k1; refine (new_calls _ 1).mono ?_; rintro e_ w1 ⟨g, a, ps, rfl, tb_, hg_, ha_, hne_, hb_⟩; rw [w_places] at tb_; have TB1 := hid tb_; have HL1 := hid (HL.out.trans (hb_.mono HL.out.size)); have HF1 : Hid (∀ k, k = g ∨ k = a → w.heap.size ≤ k) := hid (fun k hk => by rcases hk with rfl | rfl; exact hg_; exact ha_); clear tb_ hg_ ha_ hne_ hb_ HL)
  | (go_at_call 25; clear k2; refine (at_calls 0 1 _).mono ?_; rintro e_ w2 ⟨rfl, hb_⟩; have TB2 := hid (TB1.out.below hb_); have HL2 := hid (HL1.out.trans (hb_.mono HL1.out.size)); clear hb_ HL1 TB1)
  | (go_at_call 24; clear k3; refine (put_calls TB2.out (atK 0 1) (atK_good _ _) 7).mono ?_; rintro e_ w3 ⟨v_, rfl, F2, ps2, tb_, hf_, fr_⟩; have TB3 := hid tb_; have HL3 := hid (HL2.out.trans (fr_.below HF1.out HL2.out.size)); clear tb_ hf_ fr_ HL2 TB2)
  | (go_at_call 25; clear k4; refine (at_calls 0 1 _).mono ?_; rintro e_ w4 ⟨rfl, hb_⟩; have TB4 := hid (TB3.out.below hb_); have HL4 := hid (HL3.out.trans (hb_.mono HL3.out.size)); clear hb_ HL3 TB3)
  | (go_at_call 28; clear k5; refine (get_calls TB4.out (atK 0 1) (atK_good _ _)).mono ?_; rintro e_ w5 ⟨rfl, hb_⟩; rw [w_get1]; have TB5 := hid (TB4.out.below hb_); have HL5 := hid (HL4.out.trans (hb_.mono HL4.out.size)); clear hb_ HL4 TB4)
  | (go_at_call 25; clear k6; refine (at_calls 0 2 _).mono ?_; rintro e_ w6 ⟨rfl, hb_⟩; have TB6 := hid (TB5.out.below hb_); have HL6 := hid (HL5.out.trans (hb_.mono HL5.out.size)); clear hb_ HL5 TB5)
  | (go_at_call 28; clear k7; refine (get_calls TB6.out (atK 0 2) (atK_good _ _)).mono ?_; rintro e_ w7 ⟨rfl, hb_⟩; rw [w_get2]; have HL7 := hid (HL6.out.trans (hb_.mono HL6.out.size)); clear hb_ HL6 TB6))
 (try simp only [Act.put, sI, sZ, sS])
 go_ret
 exact ⟨by first | rfl | (simp; done), HL7.out⟩
set_option maxHeartbeats 40000000 in
theorem walk_TableNil (a0 a1 : Int) (w : World) : Calls Try.prog 9 #[.int .i64 a0, .int .i64 a1] w fun e w' => e = .returned (.bool true) ∧ Below w.heap.size w w' := by
 have HL := hid (Below.refl w.heap.size w)
 go_enter Try.func9, Try.ntmps9
 have k1 := True.intro
 have k2 := True.intro
 have k3 := True.intro
 have k4 := True.intro
 have k5 := True.intro
 have k6 := True.intro
 have k7 := True.intro
 have k8 := True.intro
 go_wp2_with (first
  | (go_at_call 22; clear k1; refine (wakes_calls _).mono ?_; rintro e_ w1 ⟨rfl, hb_⟩; have HL1 := hid (HL.out.trans (hb_.mono HL.out.size)); clear hb_ HL)
  | (go_at_call 25; clear k2; refine (at_calls a0 a1 _).mono ?_; rintro e_ w2 ⟨rfl, hb_⟩; have HL2 := hid (HL1.out.trans (hb_.mono HL1.out.size)); clear hb_ HL1)
  | (go_at_call 24; clear k3; refine (nput_calls _ _ _ _ _ a1 1).mono ?_; rintro e_ w3 ⟨v_, rfl, hb_⟩; have HL3 := hid (HL2.out.trans (hb_.mono HL2.out.size)); clear hb_ HL2)
  | (go_at_call 26; clear k4; refine (nclear_calls _).mono ?_; rintro e_ w4 ⟨v_, rfl, rfl⟩)
  | (go_at_call 25; clear k5; refine (at_calls a0 a1 _).mono ?_; rintro e_ w5 ⟨rfl, hb_⟩; have HL5 := hid (HL3.out.trans (hb_.mono HL3.out.size)); clear hb_ HL3)
  | (go_at_call 28; clear k6; refine (nget_calls _ _ _ _ _ a1).mono ?_; rintro e_ w6 ⟨rfl, hb_⟩; have HL6 := hid (HL5.out.trans (hb_.mono HL5.out.size)); clear hb_ HL5)
  | (go_at_call 27; clear k7; refine (nlen_calls _).mono ?_; rintro e_ w7 ⟨rfl, rfl⟩)
  | (go_at_call 29; clear k8; refine (nplaces_calls _).mono ?_; rintro e_ w8 ⟨rfl, rfl⟩))
 (try simp only [Act.put, sI, sZ, sS])
 go_ret
 exact ⟨by first | rfl | (simp; done), HL6.out⟩
end Go.Proofs.Ytpjocgebnodnoaa
