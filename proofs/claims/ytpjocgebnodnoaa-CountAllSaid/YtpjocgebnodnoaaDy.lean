/- CountTurned, in plain words: a board and the same turned about. -/
import Derived.Test.YtpjocgebnodnoaaDt
import Derived.Test.YtpjocgebnodnoaaC4w
namespace Go.Proofs.Ytpjocgebnodnoaa
open Go.RowKit
set_option linter.unusedVariables false
set_option linter.unusedSimpArgs false
theorem flip_xor : ∀ k : Fin 64, Go.bits .xor .i64 (k.val : Int) 56 = ((flipN k.val : Nat) : Int) := by decide +kernel
theorem qFlip {s : Nat} (h : s < 64) : i_square_Flip.f s = some ((flipN s : Nat) : Int) := by
  rw [i_square_Flip.f, i_square_Right.f, if_pos (by omega), Option.bind_some, decide_eq_true (by omega), if_pos rfl]; congr 1; exact flip_xor ⟨s, h⟩
theorem qTurned_l {l : List Int} : ∀ (d i k : Nat), i + d = 64 → d < k → i_board_Turned.l0 k l i (turnK l i) = some (turnL l) := by
  intro d
  induction d with
  | zero => intro i k hi hk; obtain ⟨k, rfl⟩ : ∃ j, k = j + 1 := ⟨k - 1, by omega⟩; rw [i_board_Turned.l0, if_neg (by omega), show i = 64 by omega, turnK_all]
  | succ d ih =>
    intro i k hi hk; obtain ⟨k, rfl⟩ : ∃ j, k = j + 1 := ⟨k - 1, by omega⟩
    have es : wrap64 ((i : Int) + 1) = ((i + 1 : Nat) : Int) := by rw [q64 (by omega) (by omega)]; rfl
    have hf := flipN_lt (show i < 64 by omega)
    rw [i_board_Turned.l0, if_pos (by omega), if_pos (by omega), qFlip (by omega), Option.bind_some, if_pos (by omega), if_pos (by omega), Int.toNat_natCast, Int.toNat_natCast, es]
    have := turnK_step l (show i < 64 by omega)
    rw [show IntKind.i8.wrap (-(nt l i 0)) = neg8 (l.getD i 0) from rfl, this]
    exact ih (i + 1) k (by omega) (by omega)
theorem zL_rep : zL = List.replicate 64 0 := by decide +kernel
theorem qTurned (l : List Int) {k : Nat} (hk : 64 < k) : i_board_Turned.f k l = some (turnL l) := by
  rw [i_board_Turned.f]
  have := qTurned_l (l := l) 64 0 k rfl hk
  rw [turnK_zero, ← zL_rep] at this; exact this
theorem qFirst : i_board_First.f 2000 = some firstL := by decide +kernel
def nineL : List Int := (firstL.set 24 1).set 1 0
theorem first_8 : B8 firstL := by
  have h : firstL.length = 64 ∧ (firstL.all fun x => decide (-128 ≤ x ∧ x ≤ 127)) = true := by decide +kernel
  refine ⟨h.1, fun i => ?_⟩
  rcases Nat.lt_or_ge i 64 with hi | hi
  · have := List.all_eq_true.1 h.2 firstL[i] (List.getElem_mem (by rw [h.1]; exact hi))
    rw [List.getD_eq_getElem?_getD, List.getElem?_eq_getElem (by rw [h.1]; exact hi)]; exact of_decide_eq_true this
  · rw [List.getD_eq_getElem?_getD, List.getElem?_eq_none (by rw [h.1]; exact hi)]; decide
theorem nine_8 : B8 nineL := by
  have h : nineL.length = 64 ∧ (nineL.all fun x => decide (-128 ≤ x ∧ x ≤ 127)) = true := by decide +kernel
  refine ⟨h.1, fun i => ?_⟩
  rcases Nat.lt_or_ge i 64 with hi | hi
  · have := List.all_eq_true.1 h.2 nineL[i] (List.getElem_mem (by rw [h.1]; exact hi))
    rw [List.getD_eq_getElem?_getD, List.getElem?_eq_getElem (by rw [h.1]; exact hi)]; exact of_decide_eq_true this
  · rw [List.getD_eq_getElem?_getD, List.getElem?_eq_none (by rw [h.1]; exact hi)]; decide
theorem first_facts : wrongZ firstL = 0 ∧ (manyZ firstL 1 0 : Int) + promZ firstL 0 = 8 ∧ (manyZ firstL 1 1 : Int) + promZ firstL 1 = 8 ∧ manyZ firstL 0 0 = 16 ∧ manyZ firstL 0 1 = 16 := by decide +kernel
theorem nine_facts : wrongZ nineL = 0 ∧ (manyZ nineL 1 0 : Int) + promZ nineL 0 = 9 := by decide +kernel
def home0 : List (Int × Nat) := [(8, 0), (9, 1), (10, 2), (11, 3), (12, 4), (13, 5), (14, 6), (15, 7)]
def home1 : List (Int × Nat) := [(48, 0), (49, 1), (50, 2), (51, 3), (52, 4), (53, 5), (54, 6), (55, 7)]
instance (side : Int) (p : Int × Nat) : Decidable (okP side p) := by unfold okP; infer_instance
theorem home0_fit : (home0.map (·.2)).Nodup ∧ (∀ p ∈ home0, okP 0 p) ∧ home0.map (·.1) = whereZ firstL (sg 0 1) ∧ cost home0 = 0 := by decide +kernel
theorem home1_fit : (home1.map (·.2)).Nodup ∧ (∀ p ∈ home1, okP 1 p) ∧ home1.map (·.1) = whereZ firstL (sg 1 1) ∧ cost home1 = 0 := by decide +kernel
theorem best_home {side : Int} {t : List Int} {ps : List (Int × Nat)} (h1 : (ps.map (·.2)).Nodup) (h2 : ∀ p ∈ ps, okP side p) (h3 : ps.map (·.1) = t) (h4 : cost ps = 0) {v : Int} (hv : Best side t v) : v = 0 := by
  rcases hv with ⟨_, hn⟩ | ⟨⟨qs, _, _, e⟩, hm⟩
  · exact absurd h3 (hn ps ⟨h1, h2⟩)
  · have := hm ps ⟨h1, h2⟩ h3; have := cost_nn qs; omega
theorem wakes_is : i_alfillaw24_wakes.f 10000 = some true := by
  have fi : i_board_First.f 10000 = some firstL := by decide +kernel
  obtain ⟨u0, u1, _, hl, _⟩ := two_of nineL nine_8
  obtain ⟨v0, v1, hv, hl2, _⟩ := two_of firstL first_8
  have f := first_facts; have n := nine_facts
  have tv := hv (wrong_ok f.1)
  have e0 : v0 = 0 := best_home home0_fit.1 home0_fit.2.1 home0_fit.2.2.1 home0_fit.2.2.2 tv.b0
  have e1 : v1 = 0 := best_home home1_fit.1 home1_fit.2.1 home1_fit.2.2.1 home1_fit.2.2.2 tv.b1
  have w1 : whyZ nineL u0 u1 = 2 := by unfold whyZ; rw [if_neg (fun hh => hh n.1), if_pos (by rw [n.2]; omega)]
  have w2 : whyZ firstL v0 v1 = 0 := by
    unfold whyZ; rw [if_neg (fun hh => hh f.1), f.2.1, f.2.2.1, f.2.2.2.1, f.2.2.2.2, e0, e1]; decide
  have q1 := qWhy nine_8 hl (k := 10000) (by omega)
  have q2 := qIllegal first_8 hl2 (k := 10000) (by omega)
  rw [w1] at q1; rw [w2] at q2
  rw [i_alfillaw24_wakes.f, fi, Option.bind_some, show (firstL.set 24 1).set 1 0 = nineL from rfl, q1, Option.bind_some, q2]
  rfl
theorem why_pos {l : List Int} {v0 v1 : Int} (hb : v0 ≤ 40) : whyZ l v0 v1 > 0 ↔ (wrongZ l ≠ 0 ∨ (manyZ l 1 0 : Int) + promZ l 0 > 8 ∨ (manyZ l 1 1 : Int) + promZ l 1 > 8 ∨ v0 < 0 ∨ v1 < 0 ∨ v0 > 16 - (manyZ l 0 1 : Int) ∨ v1 > 16 - (manyZ l 0 0 : Int)) := by
  unfold whyZ
  generalize (manyZ l 1 0 : Int) + promZ l 0 = a
  generalize (manyZ l 1 1 : Int) + promZ l 1 = b
  generalize (manyZ l 0 1 : Int) = c
  generalize (manyZ l 0 0 : Int) = d
  generalize wrongZ l = e
  repeat' split
  all_goals omega
theorem turned_is {l : List Int} (h : B8 l) : i_alfillaw24_CountTurned.f 10000 l = some true := by
  rw [i_alfillaw24_CountTurned.f, wakes_is, Option.bind_some, if_pos rfl, rRight h (by omega), Option.bind_some]
  by_cases ho : okB l = true
  · have ht8 := turnL_8 l
    have ht := okB_turn ho
    obtain ⟨v0, v1, hv, hl, _, b0, _⟩ := two_of l h
    obtain ⟨u0, u1, hu, hm, _, c0, _⟩ := two_of (turnL l) ht8
    have tv := hv ho; have tu := hu ht
    have e1 : u1 = v0 := tu.b1.uni (best_turn ho tv.b0)
    have e0 : u0 = v1 := by
      have := best_turn ht tu.b0
      rw [turnL_turnL h] at this; exact this.uni tv.b1
    have qi := qIllegal h hl (k := 10000) (by omega)
    have qj := qIllegal ht8 hm (k := 10000) (by omega)
    have ew : decide (whyZ l v0 v1 > 0) = decide (whyZ (turnL l) u0 u1 > 0) := by
      rw [decide_eq_decide, why_pos b0, why_pos c0, e0, e1, wrong_turn ho, prom_turn1 ho, prom_turn0 h ho, many_turn ho 1 0 (.inl rfl), many_turn ho 1 1 (.inr rfl), many_turn ho 0 0 (.inl rfl), many_turn ho 0 1 (.inr rfl)]
      simp only [show (1 : Int) - 0 = 1 from rfl, show (1 : Int) - 1 = 0 from rfl]
      generalize (manyZ l 1 0 : Int) + promZ l 0 = a
      generalize (manyZ l 1 1 : Int) + promZ l 1 = b
      generalize (manyZ l 0 1 : Int) = c
      generalize (manyZ l 0 0 : Int) = d
      omega
    rw [if_pos ho, qTurned l (by omega), Option.bind_some, (hl ho 10000 (by omega)).1, Option.bind_some, (hm ht 10000 (by omega)).2, Option.bind_some, qi, Option.bind_some, qj, Option.bind_some, ← ew, if_pos (by simp), qProm h 0 (by omega), if_pos ⟨ho, .inl rfl⟩, Option.bind_some, qProm ht8 1 (by omega), if_pos ⟨ht, .inr rfl⟩, Option.bind_some, prom_turn1 ho, if_pos rfl, e1, if_pos rfl]
    simp
  · rw [if_neg ho]
theorem walk_CountTurned (l : List Int) (h : B8 l) (w : World) : Calls Try.prog 11 #[.agg (bv l)] w fun e w' => e = .returned (.bool true) ∧ Below w.heap.size w w' :=
  i_alfillaw24_CountTurned.calls 10000 l h.1 true w (turned_is h)
end Go.Proofs.Ytpjocgebnodnoaa
