/- The law ForsythShortest, in plain words: no text of a board is shorter than the written one. -/
import Derived.Test.YtpgdcpkggmkooaaFs
namespace Go.Proofs.Ytpgdcpkggmkooaa
open Go.RowKit
set_option linter.unusedVariables false
set_option linter.unusedSimpArgs false
def cost (l : List Int) (i : Nat) : Nat := if nt l i 0 ≠ 0 then 1 else if i % 8 = 0 ∨ nt l (i - 1) 0 ≠ 0 then 1 else 0
def sumC (l : List Int) : Nat → Nat
  | 0 => 0
  | n + 1 => sumC l n + cost l n
theorem cost_le (l : List Int) (i : Nat) : cost l i ≤ 1 := by unfold cost; repeat' split
                                                              all_goals omega
theorem sum_app (l m : List Int) : ∀ n, n ≤ l.length → sumC (l ++ m) n = sumC l n := by
  intro n
  induction n with
  | zero => intro _; rfl
  | succ n ih =>
    intro h
    have e1 : nt (l ++ m) n 0 = nt l n 0 := nt_app (by omega)
    have e2 : nt (l ++ m) (n - 1) 0 = nt l (n - 1) 0 := nt_app (by omega)
    rw [sumC, sumC, ih (by omega)]
    unfold cost
    rw [e1, e2]
theorem sum_rep (l : List Int) (r f : Nat) (hl : l.length = 8 * r + f) : ∀ q : Nat, ∀ Q : Nat, q ≤ Q → f + Q ≤ 8 → sumC (l ++ List.replicate Q 0) (l.length + q) ≤ sumC l l.length + 1 ∧ (q = 0 → sumC (l ++ List.replicate Q 0) (l.length + q) = sumC l l.length) := by
  intro q
  induction q with
  | zero => intro Q h1 h2; rw [Nat.add_zero, sum_app _ _ _ (Nat.le_refl _)]; exact ⟨by omega, fun _ => rfl⟩
  | succ q ih =>
    intro Q h1 h2
    obtain ⟨I1, I2⟩ := ih Q (by omega) h2
    refine ⟨?_, fun h => by omega⟩
    rw [show l.length + (q + 1) = l.length + q + 1 by omega, sumC]
    by_cases hq : q = 0
    · have := cost_le (l ++ List.replicate Q 0) (l.length + q)
      rw [I2 hq]; omega
    · have e1 : nt (l ++ List.replicate Q 0) (l.length + q) 0 = 0 := by rw [nt_app2 (by omega), nt_rep]
      have e2 : nt (l ++ List.replicate Q 0) (l.length + q - 1) 0 = 0 := by rw [nt_app2 (by omega), nt_rep]
      have : cost (l ++ List.replicate Q 0) (l.length + q) = 0 := by
        unfold cost
        rw [if_neg (by rw [e1]; simp), if_neg (by rw [e2]; simp; omega)]
      omega
theorem stp_cost {c : Int} {s s' : St} (h : Inv s) (e : stp c s = some s') : (sumC s'.1 s'.1.length : Int) + s'.2.1 ≤ sumC s.1 s.1.length + s.2.1 + 1 := by
  obtain ⟨l, r, f⟩ := s
  have ⟨h1, h2, h3, h4, h5, h6⟩ := h
  simp only at h1 h2 h3 h4 h5 h6
  unfold stp at e
  simp only at e
  split at e
  · split at e
    · split at e
      · cases e
      · cases e; simp only; omega
    · cases e
  · split at e
    · split at e
      · cases e
      · cases e
        simp only
        have := (sum_rep l r.toNat f.toNat (by omega) (c - 48).toNat (c - 48).toNat (Nat.le_refl _) (by omega)).1
        rw [List.length_append, List.length_replicate]
        omega
    · split at e
      · cases e
      · split at e
        · cases e
        · cases e
          simp only
          rw [List.length_append, List.length_singleton, sumC, sum_app _ _ _ (Nat.le_refl _)]
          have := cost_le (l ++ [manb c]) l.length
          omega
theorem run_cost (t : ByteArray) : ∀ (n : Nat) (s : St), runS t n = some s → (sumC s.1 s.1.length : Int) + s.2.1 ≤ n := by
  intro n
  induction n with
  | zero => intro s h; cases h; decide
  | succ n ih =>
    intro s h
    simp only [runS] at h
    obtain ⟨s1, h1, h2⟩ := Option.bind_eq_some_iff.mp h
    have := ih s1 h1
    have := stp_cost (run_inv t n s1 h1) h2
    omega
theorem row_cost {b : List Int} (hb : Men b) {r : Nat} (hr : r < 8) : ∀ (d f g : Nat), f + d = 8 → g ≤ f → (0 < g ↔ (0 < f ∧ nt b (8 * r + (f - 1)) 0 = 0)) →
    sumC (bd b) (8 * (7 - r) + f) + (rowL b r d f g).size = sumC (bd b) (8 * (7 - r) + 8) + (if 0 < g then 1 else 0) := by
  intro d
  induction d with
  | zero =>
    intro f g hd hg hz
    obtain rfl : f = 8 := by omega
    rw [rowL]
    by_cases h0 : 0 < g
    · rw [if_pos h0, (gap_one h0 hg).1]
    · rw [if_neg h0, show gapT g = ⟨#[]⟩ by unfold gapT; rw [if_neg h0]]; rfl
  | succ d ih =>
    intro f g hd hg hz
    have e1 : nt (bd b) (8 * (7 - r) + f) 0 = nt b (8 * r + f) 0 := bdn hr (by omega)
    have hcost : sumC (bd b) (8 * (7 - r) + (f + 1)) = sumC (bd b) (8 * (7 - r) + f) + cost (bd b) (8 * (7 - r) + f) := rfl
    rw [rowL]
    by_cases h0 : nt b (8 * r + f) 0 = 0
    · rw [if_pos h0]
      have I := ih (f + 1) (g + 1) (by omega) (by omega) ⟨fun _ => ⟨by omega, by rw [Nat.add_sub_cancel]; exact h0⟩, fun _ => by omega⟩
      rw [if_pos (by omega)] at I
      have hc : cost (bd b) (8 * (7 - r) + f) = if 0 < g then 0 else 1 := by
        unfold cost
        rw [if_neg (by rw [e1]; simpa using h0)]
        by_cases hg0 : 0 < g
        · obtain ⟨z1, z2⟩ := hz.mp hg0
          have e2 : nt (bd b) (8 * (7 - r) + f - 1) 0 = 0 := by
            rw [show 8 * (7 - r) + f - 1 = 8 * (7 - r) + (f - 1) by omega, bdn hr (by omega)]; exact z2
          rw [if_neg (by rw [e2]; simp; omega), if_pos hg0]
        · rw [if_neg hg0, if_pos]
          by_cases hf : f = 0
          · left; omega
          · right
            intro e2
            rw [show 8 * (7 - r) + f - 1 = 8 * (7 - r) + (f - 1) by omega, bdn hr (by omega)] at e2
            exact hg0 (hz.mpr ⟨by omega, e2⟩)
      by_cases hg0 : 0 < g
      · rw [if_pos hg0] at hc ⊢; omega
      · rw [if_neg hg0] at hc ⊢; omega
    · rw [if_neg h0]
      have I := ih (f + 1) 0 (by omega) (by omega) ⟨fun h => by omega, fun h => absurd (by have := h.2; rwa [Nat.add_sub_cancel] at this) h0⟩
      rw [if_neg (by omega)] at I
      have hc : cost (bd b) (8 * (7 - r) + f) = 1 := by unfold cost; rw [if_pos (by rw [e1]; exact h0)]
      have hl := (let_one (hb (8 * r + f)) h0).1
      rw [sz_app, sz_app, hl]
      by_cases hg0 : 0 < g
      · rw [if_pos hg0, (gap_one hg0 (by omega)).1]; omega
      · rw [if_neg hg0, show gapT g = ⟨#[]⟩ by unfold gapT; rw [if_neg hg0]]
        show _ + (0 + _) = _
        omega
theorem wr_cost {b : List Int} (hb : Men b) : ∀ r : Nat, r < 8 → sumC (bd b) (8 * (7 - r)) + (wrT b r).size = sumC (bd b) 64 + r := by
  intro r
  induction r with
  | zero =>
    intro hr
    have := row_cost hb hr 8 0 0 (by omega) (by omega) ⟨fun h => by omega, fun h => by omega⟩
    rw [if_neg (by omega)] at this
    exact this
  | succ r ih =>
    intro hr
    have I := ih (by omega)
    have := row_cost hb hr 8 0 0 (by omega) (by omega) ⟨fun h => by omega, fun h => by omega⟩
    rw [if_neg (by omega), show 8 * (7 - (r + 1)) + 8 = 8 * (7 - r) by omega, Nat.add_zero] at this
    rw [wrT, sz_app, sz_app]
    have e : (rowT b (r + 1)).size = (rowL b (r + 1) 8 0 0).size := rfl
    have e2 : (⟨#[47]⟩ : ByteArray).size = 1 := rfl
    omega
theorem rdF_ans (t : ByteArray) : ∀ (d i : Nat) (s : St), i + d = t.size → runS t i = some s → (∃ s', runS t t.size = some s' ∧ s'.1.length = 64 ∧ rdF t d i = (bd s'.1, (t.size : Int), 0)) ∨ ((rdF t d i).1 = zL ∧ (rdF t d i).2.2 ≠ 0) := by
  intro d
  induction d with
  | zero =>
    intro i s hd h
    simp only [rdF, h]
    by_cases hl : s.1.length = 64
    · rw [if_pos hl]
      exact .inl ⟨s, by rw [show t.size = i by omega]; exact h, hl, by rw [show (i : Int) = t.size by omega]⟩
    · rw [if_neg hl]
      exact .inr ⟨rfl, by simp⟩
  | succ d ih =>
    intro i s hd h
    simp only [rdF]
    cases hx : runS t (i + 1) with
    | none => exact .inr ⟨rfl, by simp⟩
    | some s1 => exact ih (i + 1) s1 (by omega) hx
theorem nt_bd_men {l : List Int} (h : ∀ i, -6 ≤ nt l i 0 ∧ nt l i 0 ≤ 6) : Men (bd l) := fun j => by
  rcases Nat.lt_or_ge j 64 with hj | hj
  · rw [bd_get _ hj]; exact h _
  · rw [nt_out (by rw [bd_len]; exact hj)]; omega
theorem shortest_is (t : ByteArray) : i_alfillaw04_ForsythShortest.f 10000 t = some true := by
  unfold i_alfillaw04_ForsythShortest.f
  rw [fwakes_is (by decide)]
  simp only [Option.bind_some, if_true]
  by_cases h : (t.size : Int) > 200
  · rw [if_pos h]
  · rw [if_neg h, read_is t (by omega) (by omega)]
    simp only [Option.bind_some]
    rcases rdF_ans t t.size 0 ([], 0, 0) (by omega) rfl with ⟨s, h1, h2, h3⟩ | ⟨h1, h2⟩
    · have hi := run_inv t _ s h1
      have hm := nt_bd_men hi.el
      have h8 : B8 (bd s.1) := ⟨bd_len _, fun i => by have := hm i; unfold nt at this; omega⟩
      have hc := run_cost t _ s h1
      rw [h2] at hc
      have hw := wr_cost hm 7 (by omega)
      rw [bd_bd h2] at hw
      have hlen := hi.len
      have hr1 := hi.r1
      have hf1 := hi.f1
      have hz : sumC s.1 (8 * (7 - 7)) = 0 := rfl
      rw [show rdZ t = rdF t t.size 0 from rfl, h3]
      simp only
      rw [if_pos trivial]
      have W : i_forsyth_Write.f 10000 (bd s.1) = some (wrT (bd s.1) 7, 0) := by
        rcases writes_are h8 (k := 10000) (by omega) with ⟨_, e1, _⟩ | ⟨e1, _⟩
        · exact e1
        · exfalso
          obtain ⟨R1, R2⟩ := right_l h8 64 0 10000 (by omega) (by omega)
          rw [show ((0 : Nat) : Int) = 0 from rfl] at R1
          unfold i_forsyth_Write.f i_board_Right.f at e1
          rw [R1] at e1
          simp only [Option.bind_some] at e1
          cases hr : rgF (bd s.1) 64 0 with
          | true => rw [hr, if_pos rfl, pw_is hm (by omega)] at e1; simp at e1
          | false =>
            have T : ∀ (d i : Nat), rgF (bd s.1) d i = true := fun d => by
              induction d with
              | zero => intro i; rfl
              | succ d ih => intro i; rw [rgF, if_pos (hm i)]; exact ih _
            rw [T] at hr; cases hr
      rw [W]
      simp only [Option.bind_some]
      rw [read_is _ (by omega) (by omega), read_wr (bd_len _) hm]
      simp only [Option.bind_some]
      rw [if_pos trivial, if_pos (by omega), if_pos trivial, if_pos trivial]
    · rw [show rdZ t = rdF t t.size 0 from rfl, if_neg h2, if_pos h1]
theorem walk_ForsythShortest (t : ByteArray) (ht : t.size ≤ maxLen) (w : World) : Calls Try.prog 10 #[.string t] w fun e w' => e = .returned (.bool true) ∧ Below w.heap.size w w' :=
  i_alfillaw04_ForsythShortest.calls 10000 t true w (shortest_is t)
end Go.Proofs.Ytpgdcpkggmkooaa
