/- CountAll, in plain words: the program's counting and the reference's. -/
import Derived.Test.YtpjocgebnodnoaaDy
import Derived.Test.YtpjocgebnodnoaaC5w
namespace Go.Proofs.Ytpjocgebnodnoaa
open Go.RowKit
set_option linter.unusedVariables false
set_option linter.unusedSimpArgs false
theorem all_step {l : List Int} (h : B8 l) {side : Int} (hs : side = 0 ∨ side = 1) {v : Int} (hv : okB l = true → Best side (whereZ l (sg side 1)) v) (hl : okB l = true → ∀ k, 4000 < k → i_count_Least.f k l side = some (outZ v)) {k : Nat} (hk : 5000 < k) (X : Option Bool) :
    ((i_count_Least.f k l side).bind fun bt => ((i_alfilref03_Right.f k l).bind fun t => (if t = true then ((i_alfilref24_Least.f k l side).bind fun u => (if (bt.2 != (decide (u ≥ 0))) = true then (some false) else (if u < 0 then (if bt.1 = 0 then ((i_count_Promoted.f k l side).bind fun x => ((i_alfilref24_Promoted.f k l side).bind fun y => (if x = y then X else (some false)))) else (some false)) else (if bt.1 = u then ((i_count_Promoted.f k l side).bind fun x => ((i_alfilref24_Promoted.f k l side).bind fun y => (if x = y then X else (some false)))) else (some false))))) else (if bt.1 = 0 then (if bt.2 = true then (some false) else ((i_count_Promoted.f k l side).bind fun x => (if x = 0 then X else (some false)))) else (some false))))) = X := by
  rw [rRight h (by omega)]
  by_cases ho : okB l = true
  · have qp : i_count_Promoted.f k l side = some (promZ l side) := by rw [qProm h side (by omega), if_pos ⟨ho, hs⟩]
    rw [hl ho k (by omega), Option.bind_some, Option.bind_some, if_pos ho, rLeast h hs (hv ho) (by omega), Option.bind_some, qp, Option.bind_some, rProm h hs (by omega), Option.bind_some, if_pos (c := promZ l side = promZ l side) rfl]
    unfold outZ
    by_cases hv0 : v < 0
    · rw [if_pos hv0, if_pos hv0, decide_eq_false (by omega), if_neg (by simp), if_pos rfl]
    · rw [if_neg hv0, if_neg hv0, decide_eq_true (by omega), if_neg (by simp), if_pos rfl]
  · have e : ¬ (okB l = true ∧ (side = 0 ∨ side = 1)) := fun hh => ho hh.1
    have qp : i_count_Promoted.f k l side = some 0 := by rw [qProm h side (by omega), if_neg e]
    rw [qLeast_no h e (by omega), Option.bind_some, Option.bind_some, if_neg ho, if_pos rfl, if_neg (by simp), qp, Option.bind_some, if_pos rfl]
theorem all_l0 {l : List Int} (h : B8 l) {v0 v1 : Int} (hv : okB l = true → Two l v0 v1) (hl : okB l = true → ∀ k, 4000 < k → i_count_Least.f k l 0 = some (outZ v0) ∧ i_count_Least.f k l 1 = some (outZ v1)) {k : Nat} (hk : 5010 < k) :
    i_alfillaw24_CountAll.l0 k l 0 = some true := by
  obtain ⟨k, rfl⟩ : ∃ i, k = i + 3 := ⟨k - 3, by omega⟩
  rw [i_alfillaw24_CountAll.l0, if_pos (by omega), all_step h (side := 0) (.inl rfl) (fun ho => (hv ho).b0) (fun ho k hk => (hl ho k hk).1) (k := k + 2) (by omega) (i_alfillaw24_CountAll.l0 (k + 2) l (wrap64 (0 + 1))), z1]
  rw [i_alfillaw24_CountAll.l0, if_pos (by omega), all_step h (side := 1) (.inr rfl) (fun ho => (hv ho).b1) (fun ho k hk => (hl ho k hk).2) (k := k + 1) (by omega) (i_alfillaw24_CountAll.l0 (k + 1) l (wrap64 (1 + 1))), z2]
  rw [i_alfillaw24_CountAll.l0, if_neg (by omega), qLeast_no h (fun hh => by omega) (by omega), Option.bind_some, if_pos rfl, if_neg (by simp), qProm h _ (by omega), if_neg (fun hh => by omega)]; rfl
theorem all_l1 {l : List Int} (h : B8 l) {v0 v1 : Int} (hv : okB l = true → Two l v0 v1) (hl : okB l = true → ∀ k, 4000 < k → i_count_Least.f k l 0 = some (outZ v0) ∧ i_count_Least.f k l 1 = some (outZ v1)) {k : Nat} (hk : 5010 < k) :
    i_alfillaw24_CountAll.l1 k l 0 = some true := by
  obtain ⟨k, rfl⟩ : ∃ i, k = i + 3 := ⟨k - 3, by omega⟩
  rw [i_alfillaw24_CountAll.l1, if_pos (by omega), all_step h (side := 0) (.inl rfl) (fun ho => (hv ho).b0) (fun ho k hk => (hl ho k hk).1) (k := k + 2) (by omega) (i_alfillaw24_CountAll.l1 (k + 2) l (wrap64 (0 + 1))), z1]
  rw [i_alfillaw24_CountAll.l1, if_pos (by omega), all_step h (side := 1) (.inr rfl) (fun ho => (hv ho).b1) (fun ho k hk => (hl ho k hk).2) (k := k + 1) (by omega) (i_alfillaw24_CountAll.l1 (k + 1) l (wrap64 (1 + 1))), z2]
  rw [i_alfillaw24_CountAll.l1, if_neg (by omega), qLeast_no h (fun hh => by omega) (by omega), Option.bind_some, if_pos rfl, if_neg (by simp), qProm h _ (by omega), if_neg (fun hh => by omega)]; rfl
theorem all_l2 {l : List Int} (h : B8 l) {v0 v1 : Int} (hv : okB l = true → Two l v0 v1) (hl : okB l = true → ∀ k, 4000 < k → i_count_Least.f k l 0 = some (outZ v0) ∧ i_count_Least.f k l 1 = some (outZ v1)) {k : Nat} (hk : 5010 < k) :
    i_alfillaw24_CountAll.l2 k l 0 = some true := by
  obtain ⟨k, rfl⟩ : ∃ i, k = i + 3 := ⟨k - 3, by omega⟩
  rw [i_alfillaw24_CountAll.l2, if_pos (by omega), all_step h (side := 0) (.inl rfl) (fun ho => (hv ho).b0) (fun ho k hk => (hl ho k hk).1) (k := k + 2) (by omega) (i_alfillaw24_CountAll.l2 (k + 2) l (wrap64 (0 + 1))), z1]
  rw [i_alfillaw24_CountAll.l2, if_pos (by omega), all_step h (side := 1) (.inr rfl) (fun ho => (hv ho).b1) (fun ho k hk => (hl ho k hk).2) (k := k + 1) (by omega) (i_alfillaw24_CountAll.l2 (k + 1) l (wrap64 (1 + 1))), z2]
  rw [i_alfillaw24_CountAll.l2, if_neg (by omega), qLeast_no h (fun hh => by omega) (by omega), Option.bind_some, if_pos rfl, if_neg (by simp), qProm h _ (by omega), if_neg (fun hh => by omega)]; rfl
theorem all_l3 {l : List Int} (h : B8 l) {v0 v1 : Int} (hv : okB l = true → Two l v0 v1) (hl : okB l = true → ∀ k, 4000 < k → i_count_Least.f k l 0 = some (outZ v0) ∧ i_count_Least.f k l 1 = some (outZ v1)) {k : Nat} (hk : 5010 < k) :
    i_alfillaw24_CountAll.l3 k l 0 = some true := by
  obtain ⟨k, rfl⟩ : ∃ i, k = i + 3 := ⟨k - 3, by omega⟩
  rw [i_alfillaw24_CountAll.l3, if_pos (by omega), all_step h (side := 0) (.inl rfl) (fun ho => (hv ho).b0) (fun ho k hk => (hl ho k hk).1) (k := k + 2) (by omega) (i_alfillaw24_CountAll.l3 (k + 2) l (wrap64 (0 + 1))), z1]
  rw [i_alfillaw24_CountAll.l3, if_pos (by omega), all_step h (side := 1) (.inr rfl) (fun ho => (hv ho).b1) (fun ho k hk => (hl ho k hk).2) (k := k + 1) (by omega) (i_alfillaw24_CountAll.l3 (k + 1) l (wrap64 (1 + 1))), z2]
  rw [i_alfillaw24_CountAll.l3, if_neg (by omega), qLeast_no h (fun hh => by omega) (by omega), Option.bind_some, if_pos rfl, if_neg (by simp), qProm h _ (by omega), if_neg (fun hh => by omega)]; rfl
theorem all_l4 {l : List Int} (h : B8 l) {v0 v1 : Int} (hv : okB l = true → Two l v0 v1) (hl : okB l = true → ∀ k, 4000 < k → i_count_Least.f k l 0 = some (outZ v0) ∧ i_count_Least.f k l 1 = some (outZ v1)) {k : Nat} (hk : 5010 < k) :
    i_alfillaw24_CountAll.l4 k l 0 = some true := by
  obtain ⟨k, rfl⟩ : ∃ i, k = i + 3 := ⟨k - 3, by omega⟩
  rw [i_alfillaw24_CountAll.l4, if_pos (by omega), all_step h (side := 0) (.inl rfl) (fun ho => (hv ho).b0) (fun ho k hk => (hl ho k hk).1) (k := k + 2) (by omega) (i_alfillaw24_CountAll.l4 (k + 2) l (wrap64 (0 + 1))), z1]
  rw [i_alfillaw24_CountAll.l4, if_pos (by omega), all_step h (side := 1) (.inr rfl) (fun ho => (hv ho).b1) (fun ho k hk => (hl ho k hk).2) (k := k + 1) (by omega) (i_alfillaw24_CountAll.l4 (k + 1) l (wrap64 (1 + 1))), z2]
  rw [i_alfillaw24_CountAll.l4, if_neg (by omega), qLeast_no h (fun hh => by omega) (by omega), Option.bind_some, if_pos rfl, if_neg (by simp), qProm h _ (by omega), if_neg (fun hh => by omega)]; rfl
theorem rPawns {l : List Int} (h : B8 l) {side : Int} (hs : side = 0 ∨ side = 1) {k : Nat} (hk : 70 < k) : i_alfillaw24_pawns.f k l side = some (manyZ l 1 side : Int) := by
  rw [i_alfillaw24_pawns.f, rMany h 1 side hs hk]; rfl
theorem all_is {l : List Int} (h : B8 l) : i_alfillaw24_CountAll.f 10000 l = some true := by
  obtain ⟨v0, v1, hv, hl, _⟩ := two_of l h
  have L0 := all_l0 h hv hl (k := 10000) (by omega)
  have L1 := all_l1 h hv hl (k := 10000) (by omega)
  have L2 := all_l2 h hv hl (k := 10000) (by omega)
  have L3 := all_l3 h hv hl (k := 10000) (by omega)
  have L4 := all_l4 h hv hl (k := 10000) (by omega)
  have w := qWhy h hl (k := 10000) (by omega)
  have i := qIllegal h hl (k := 10000) (by omega)
  have r := rWhy h hv (k := 10000) (by omega)
  have p0 := rPawns h (side := 0) (.inl rfl) (k := 10000) (by omega)
  have p1 := rPawns h (side := 1) (.inr rfl) (k := 10000) (by omega)
  have g := rRight h (k := 10000) (by omega)
  rw [i_alfillaw24_CountAll.f, wakes_is, Option.bind_some, if_pos rfl, w, Option.bind_some, p0, Option.bind_some, p1, Option.bind_some, r, Option.bind_some, Option.bind_some, Option.bind_some, i, Option.bind_some, Option.bind_some, Option.bind_some, g, Option.bind_some, Option.bind_some, L0, L1, L2, L3, L4]
  have e1 : ((decide (whyZ l v0 v1 > 0) != decide (whyZ l v0 v1 > 0)) = true) = False := by simp
  simp only [e1, if_false, if_true]
  repeat' split
  all_goals rfl
theorem walk_CountAll (l : List Int) (h : B8 l) (w : World) : Calls Try.prog 10 #[.agg (bv l)] w fun e w' => e = .returned (.bool true) ∧ Below w.heap.size w w' :=
  i_alfillaw24_CountAll.calls 10000 l h.1 true w (all_is h)
end Go.Proofs.Ytpjocgebnodnoaa
