/- Plain words on counting: a board turned. -/
import Derived.Test.YtpjocgebnodnoaaDw
namespace Go.Proofs.Ytpjocgebnodnoaa
open Go.RowKit
set_option linter.unusedVariables false
set_option linter.unusedSimpArgs false
attribute [local go_sem] bne_self_eq_false beq_self_eq_true
theorem wrap_i8 (x : Int) : IntKind.wrap .i8 x = (x + 128) % 256 - 128 := by
  unfold IntKind.wrap
  simp [IntKind.bits, IntKind.signed]
  try omega
theorem neg8_neg {x : Int} (h0 : -128 ≤ x) (h1 : x ≤ 127) : neg8 (neg8 x) = x := by
  unfold neg8
  simp only [wrap_i8]
  omega
theorem turnL_get (l : List Int) (i : Nat) (hi : i < 64) : (turnL l).getD i 0 = neg8 (l.getD (flipN i) 0) := by
  unfold turnL
  rw [List.getD_eq_getElem?_getD]
  simp [hi]
theorem neg8_8 {x : Int} : -128 ≤ neg8 x ∧ neg8 x ≤ 127 := by
  unfold neg8
  simp only [wrap_i8]
  omega
theorem turnL_8 (l : List Int) : B8 (turnL l) := by
  refine ⟨turnL_len l, fun i => ?_⟩
  rcases Nat.lt_or_ge i 64 with h | h
  · rw [turnL_get l i h]; exact neg8_8
  · rw [List.getD_eq_getElem?_getD, List.getElem?_eq_none (by rw [turnL_len]; exact h)]; decide
theorem turnL_turnL {l : List Int} (h8 : B8 l) : turnL (turnL l) = l := by
  apply List.ext_getElem (by rw [turnL_len, h8.1])
  intro i h1 h2
  have hi : i < 64 := by rw [turnL_len] at h1; exact h1
  have e1 : (turnL (turnL l)).getD i 0 = l.getD i 0 := by
    rw [turnL_get _ i hi, turnL_get _ _ (flipN_lt hi), flipN_flip hi, neg8_neg (h8.2 _).1 (h8.2 _).2]
  simpa [List.getElem?_eq_getElem h1, List.getElem?_eq_getElem h2] using e1
theorem man_neg {x : Int} (h : manB x = true ∨ x = 0) : neg8 x = -x := by
  unfold neg8
  rw [wrap_i8]
  rcases h with h | h
  · unfold manB at h; rw [decide_eq_true_iff] at h; omega
  · omega
theorem manB_neg {x : Int} : manB (-x) = manB x := by
  unfold manB
  by_cases h : -6 ≤ x ∧ x ≤ 6 ∧ x ≠ 0
  · rw [decide_eq_true (by omega), decide_eq_true (by omega)]
  · rw [decide_eq_false (by omega), decide_eq_false (by omega)]
theorem okB_get {l : List Int} (h : okB l = true) (i : Nat) (hi : i < 64) : (turnL l).getD i 0 = -(l.getD (flipN i) 0) := by
  rw [turnL_get l i hi, man_neg (okB_at h _ (flipN_lt hi))]
theorem okB_turn {l : List Int} (h : okB l = true) : okB (turnL l) = true := by
  refine okB_yes (fun i hi => ?_)
  rw [okB_get h i hi, manB_neg]
  rcases okB_at h _ (flipN_lt hi) with e | e
  · exact .inl e
  · exact .inr (by omega)
theorem flip_perm : (List.range 64).map flipN = (List.range 64).map flipN ∧ ((List.range 64).map flipN).Perm (List.range 64) := ⟨rfl, by decide +kernel⟩
theorem inB_neg (x kind : Int) (side : Int) (hs : side = 0 ∨ side = 1) (h : manB x = true ∨ x = 0) : inB (-x) kind side = inB x kind (1 - side) := by
  have h6 : -6 ≤ x ∧ x ≤ 6 := by
    rcases h with h | h
    · unfold manB at h; rw [decide_eq_true_iff] at h; omega
    · omega
  rcases (show x = -6 ∨ x = -5 ∨ x = -4 ∨ x = -3 ∨ x = -2 ∨ x = -1 ∨ x = 0 ∨ x = 1 ∨ x = 2 ∨ x = 3 ∨ x = 4 ∨ x = 5 ∨ x = 6 by omega) with rfl | rfl | rfl | rfl | rfl | rfl | rfl | rfl | rfl | rfl | rfl | rfl | rfl <;> rcases hs with rfl | rfl <;> rfl
theorem many_turn {l : List Int} (h : okB l = true) (kind side : Int) (hs : side = 0 ∨ side = 1) : manyZ (turnL l) kind side = manyZ l kind (1 - side) := by
  unfold manyZ cntK
  rw [← (flip_perm.2.filter fun i => inB (l.getD i 0) kind (1 - side)).length_eq, List.filter_map, List.length_map]
  congr 1
  apply List.filter_congr
  intro i hi
  rw [okB_get h i (List.mem_range.1 hi), inB_neg _ _ _ hs (okB_at h _ (flipN_lt (List.mem_range.1 hi)))]
  rfl
theorem kind_neg (x : Int) : kindZ (-x) = 1 ↔ kindZ x = 1 := by rw [kind_one, kind_one]; omega
theorem rim_turn {l : List Int} (h : okB l = true) : rimB (turnL l) = rimB l := by
  have one : ∀ i, i < 64 → (rimAt (turnL l) i ↔ rimAt l (flipN i)) := fun i hi => by
    unfold rimAt
    rw [okB_get h i hi, kind_neg]
    have : ((flipN i : Nat) : Int) / 8 = 7 - (i : Int) / 8 := by unfold flipN; omega
    rw [this]
    constructor
    · rintro ⟨a, b⟩; exact ⟨a, by omega⟩
    · rintro ⟨a, b⟩; exact ⟨a, by omega⟩
  cases hb : rimB l with
  | true =>
    unfold rimB at hb
    rw [List.any_eq_true] at hb
    obtain ⟨i, hi, hr⟩ := hb
    have hi' := List.mem_range.1 hi
    refine rimB_yes (flipN i) (flipN_lt hi') ((one _ (flipN_lt hi')).2 ?_)
    rw [flipN_flip hi']
    exact of_decide_eq_true hr
  | false =>
    refine rimB_no (fun i hi hr => ?_)
    rw [rimB_yes (flipN i) (flipN_lt hi) ((one i hi).1 hr)] at hb
    cases hb
theorem wrong_turn {l : List Int} (h : okB l = true) : wrongZ (turnL l) = wrongZ l := by
  unfold wrongZ
  rw [okB_turn h, h, rim_turn h, many_turn h 6 0 (.inl rfl), many_turn h 6 1 (.inr rfl), many_turn h 0 0 (.inl rfl), many_turn h 0 1 (.inr rfl)]
  simp only [show (1 : Int) - 0 = 1 from rfl, show (1 : Int) - 1 = 0 from rfl]
  simp only [@or_comm (manyZ l 6 1 ≠ 1), @or_comm (16 < manyZ l 0 1)]
theorem turn_first : turnL firstL = firstL := by decide +kernel
/-- where a man stands on a board turned. -/
theorem where_turn {l : List Int} (h : okB l = true) (m : Int) : ((whereZ l m).map flipI).Perm (whereZ (turnL l) (-m)) := by
  have h1 : (whereK (turnL l) (-m) 64).Perm ((whereK l m 64).map flipN) := by
    unfold whereK
    have := (flip_perm.2.filter fun i => (turnL l).getD i 0 == -m).symm
    rw [List.filter_map] at this
    refine this.trans (List.Perm.of_eq ?_)
    congr 1
    apply List.filter_congr
    intro i hi
    have hi := List.mem_range.1 hi
    show ((turnL l).getD (flipN i) 0 == -m) = _
    rw [okB_get h _ (flipN_lt hi), flipN_flip hi, Bool.eq_iff_iff]
    simp only [beq_iff_eq]
    omega
  have h2 := (h1.map Int.ofNat).symm
  unfold whereZ
  refine List.Perm.trans (List.Perm.of_eq ?_) h2
  rw [List.map_map, List.map_map]
  apply List.map_congr_left
  intro i hi
  have hi := List.mem_range.1 (List.mem_filter.1 hi).1
  show flipI (Int.ofNat i) = Int.ofNat (flipN i)
  unfold flipI flipN
  show 8 * (7 - (i : Int) / 8) + (i : Int) % 8 = ((8 * (7 - i / 8) + i % 8 : Nat) : Int)
  omega
theorem bcnt_turn {l : List Int} (h : okB l = true) (b : Bool) : bcnt (turnL l) 1 b = bcnt l 0 (!b) := by
  unfold bcnt
  have hp := (where_turn h 3).filter (darkF b)
  rw [show sg 1 3 = -3 by decide, show sg 0 3 = 3 by decide, ← hp.length_eq, List.filter_map, List.length_map]
  congr 1
  apply List.filter_congr
  intro s hs
  have := mem_where hs
  show darkF b (flipI s) = darkF (!b) s
  unfold darkF flipI
  have e : ((8 * (7 - s / 8) + s % 8) % 8 + (8 * (7 - s / 8) + s % 8) / 8) % 2 = 0 ↔ ¬ (s % 8 + s / 8) % 2 = 0 := by
    rw [show (8 * (7 - s / 8) + s % 8) % 8 = s % 8 by omega, show (8 * (7 - s / 8) + s % 8) / 8 = 7 - s / 8 by omega]; omega
  by_cases hd : (s % 8 + s / 8) % 2 = 0
  · rw [decide_eq_true hd, decide_eq_false (fun hh => e.1 hh hd)]; cases b <;> rfl
  · rw [decide_eq_false hd, decide_eq_true (e.2 hd)]; cases b <;> rfl
theorem men3_turn {l : List Int} (h : okB l = true) (side : Int) (hs : side = 0 ∨ side = 1) : men3 (turnL l) side = men3 l (1 - side) := by
  unfold men3; rw [many_turn h 2 side hs, many_turn h 4 side hs, many_turn h 5 side hs]
theorem prom_turn1 {l : List Int} (h : okB l = true) : promZ (turnL l) 1 = promZ l 0 := by
  unfold promZ; rw [men3_turn h 1 (.inr rfl), bcnt_turn h, bcnt_turn h, show (1 : Int) - 1 = 0 from rfl, Bool.not_true, Bool.not_false]; omega
theorem prom_turn0 {l : List Int} (h8 : B8 l) (h : okB l = true) : promZ (turnL l) 0 = promZ l 1 := by
  have := prom_turn1 (okB_turn h); rw [turnL_turnL h8] at this; exact this.symm
theorem best_turn {l : List Int} (h : okB l = true) {v : Int} (hv : Best 0 (whereZ l (sg 0 1)) v) : Best 1 (whereZ (turnL l) (sg 1 1)) v := by
  have := hv.flip.perm (where_turn h (sg 0 1))
  rw [show sg 1 1 = -sg 0 1 by decide]; exact this
end Go.Proofs.Ytpjocgebnodnoaa
