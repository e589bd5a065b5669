/- Rays in plain words: the program's ways and the reference's; lines. -/
import Derived.Test.YtpjocgebnodnoaaY3w
import Derived.Test.YtpjocgebnodnoaaCr
namespace Go.Proofs.Ytpjocgebnodnoaa
open Go.RowKit
set_option linter.unusedVariables false
set_option linter.unusedSimpArgs false
theorem sqRight (s : Int) : i_square_Right.f s = some (decide (0 ≤ s ∧ s < 64)) := by
  unfold i_square_Right.f
  by_cases h : s ≥ 0
  · rw [if_pos h]; congr 1; exact decide_eq_decide.mpr (by omega)
  · rw [if_neg h]; congr 1; exact (decide_eq_false (by omega)).symm
theorem sqOn (s : Int) : i_square_on.f s = some (decide (0 ≤ s ∧ s < 8)) := by
  unfold i_square_on.f
  by_cases h : s ≥ 0
  · rw [if_pos h]; congr 1; exact decide_eq_decide.mpr (by omega)
  · rw [if_neg h]; congr 1; exact (decide_eq_false (by omega)).symm
theorem sqAt (f r : Int) : i_square_At.f f r = some (if findZ f r < 0 then (0, false) else (findZ f r, true)) := by
  rw [i_square_At.f, sqOn, sqOn, Option.bind_some, Option.bind_some]
  by_cases hf : 0 ≤ f ∧ f < 8
  · rw [decide_eq_true hf, if_pos rfl]
    by_cases hr : 0 ≤ r ∧ r < 8
    · rw [decide_eq_true hr, if_pos rfl, findZ_in hf.1 hf.2 hr.1 hr.2, if_neg (by omega), q64 (x := 8 * r) (by omega) (by omega), q64 (by omega) (by omega)]
    · rw [decide_eq_false hr, if_neg (by simp), findZ_out (fun h => hr ⟨h.2.2.1, h.2.2.2⟩), if_pos (by omega)]
  · rw [decide_eq_false hf, if_neg (by simp), findZ_out (fun h => hf ⟨h.1, h.2.1⟩), if_pos (by omega)]
theorem stp_z (s f r : Int) : stpZ s f r = if stepZ s f r < 0 then (0, false) else (stepZ s f r, true) := by
  have key : i_square_Step.f s f r = some (if stepZ s f r < 0 then (0, false) else (stepZ s f r, true)) := by
    rw [i_square_Step.f, sqRight, Option.bind_some]
    by_cases hs : 0 ≤ s ∧ s < 64
    · rw [decide_eq_true hs, if_pos rfl, stepZ_in hs.1 hs.2, sqAt, Option.bind_some, Int.tmod_eq_emod_of_nonneg hs.1, Int.tdiv_eq_ediv_of_nonneg hs.1, q64 (x := s / 8) (by omega) (by omega)]
      by_cases h1 : f ≤ -8
      · rw [if_pos h1, findZ_out (by omega), if_pos (by omega)]
      · by_cases h2 : f ≥ 8
        · rw [if_neg h1, if_pos h2, findZ_out (by omega), if_pos (by omega)]
        · by_cases h3 : r ≤ -8
          · rw [if_neg h1, if_neg h2, if_pos h3, findZ_out (by omega), if_pos (by omega)]
          · by_cases h4 : r ≥ 8
            · rw [if_neg h1, if_neg h2, if_neg h3, if_pos h4, findZ_out (by omega), if_pos (by omega)]
            · rw [if_neg h1, if_neg h2, if_neg h3, if_neg h4, q64 (by omega) (by omega), q64 (by omega) (by omega)]
    · rw [decide_eq_false hs, if_neg (by simp), stepZ_out hs, if_pos (by omega)]
  have := stp_is s f r
  rw [key] at this; exact (Option.some.inj this).symm
theorem stepZ_neg {s f r : Int} : stepZ s f r < 0 ↔ stepZ s f r = -1 := by have := stepZ_cases s f r; omega
theorem rStep_l {s f r : Int} (h0 : 0 ≤ s) (h1 : s < 64) : ∀ (d i k : Nat), i + d = 64 → d + 20 < k → (findZ (s % 8 + f) (s / 8 + r) = -1 ∨ (i : Int) ≤ findZ (s % 8 + f) (s / 8 + r)) → i_alfilref01_Step.l0 k s f r i = some (findZ (s % 8 + f) (s / 8 + r)) := by
  intro d
  induction d with
  | zero => intro i k hi hk hf; obtain ⟨k, rfl⟩ : ∃ j, k = j + 1 := ⟨k - 1, by omega⟩; rw [i_alfilref01_Step.l0, if_neg (by omega), findZ_done (by omega)]
  | succ d ih =>
    intro i k hi hk hf; obtain ⟨k, rfl⟩ : ∃ j, k = j + 1 := ⟨k - 1, by omega⟩
    have es : wrap64 ((i : Int) + 1) = ((i + 1 : Nat) : Int) := by rw [q64 (by omega) (by omega)]; rfl
    rw [i_alfilref01_Step.l0, if_pos (by omega), rFile (by omega) (by omega) (by omega), Option.bind_some, rFile h0 h1 (by omega), Option.bind_some, rRank (by omega) (by omega) (by omega), Option.bind_some, rRank h0 h1 (by omega), Option.bind_some, q64 (x := (i : Int) % 8 - s % 8) (by omega) (by omega), q64 (x := (i : Int) / 8 - s / 8) (by omega) (by omega), es]
    have more : ¬ ((i : Int) % 8 = s % 8 + f ∧ (i : Int) / 8 = s / 8 + r) → i_alfilref01_Step.l0 k s f r ((i + 1 : Nat) : Int) = some (findZ (s % 8 + f) (s / 8 + r)) := fun hn => ih (i + 1) k (by omega) (by omega) (by have := findZ_miss hf hn; omega)
    by_cases c1 : (i : Int) % 8 - s % 8 = f
    · rw [if_pos c1]
      by_cases c2 : (i : Int) / 8 - s / 8 = r
      · rw [if_pos c2, findZ_hit (k := (i : Int)) (by omega) (by omega) (by omega) (by omega)]
      · rw [if_neg c2]; exact more (by omega)
    · rw [if_neg c1]; exact more (by omega)
theorem rStep (s f r : Int) {k : Nat} (hk : 90 < k) : i_alfilref01_Step.f k s f r = some (stepZ s f r) := by
  rw [i_alfilref01_Step.f, i_alfilref01_Right.f]
  by_cases h : 0 ≤ s ∧ s < 64
  · rw [if_pos h.1, Option.bind_some, decide_eq_true (by omega), if_pos rfl, stepZ_in h.1 h.2]
    exact rStep_l h.1 h.2 64 0 k rfl (by omega) (by have := findZ_cases (s % 8 + f) (s / 8 + r); omega)
  · rw [stepZ_out h]
    by_cases h0 : 0 ≤ s
    · rw [if_pos h0, Option.bind_some, decide_eq_false (by omega), if_neg (by simp)]
    · rw [if_neg h0, Option.bind_some, if_neg (by simp)]
/-- how many steps there may still be. -/
def mu (f r s : Int) : Nat := if 0 < f then (7 - s % 8).toNat else if f < 0 then (s % 8).toNat else if 0 < r then (7 - s / 8).toNat else (s / 8).toNat
theorem mu_step {s f r : Int} (h : 0 ≤ stepZ s f r) (hne : ¬ (f = 0 ∧ r = 0)) : 0 ≤ s ∧ s < 64 ∧ stepZ s f r < 64 ∧ mu f r (stepZ s f r) < mu f r s ∧ mu f r s ≤ 7 := by
  by_cases hs : 0 ≤ s ∧ s < 64
  · rw [stepZ_in hs.1 hs.2] at *
    by_cases hf : 0 ≤ s % 8 + f ∧ s % 8 + f < 8 ∧ 0 ≤ s / 8 + r ∧ s / 8 + r < 8
    · rw [findZ_in hf.1 hf.2.1 hf.2.2.1 hf.2.2.2]
      have e1 : (8 * (s / 8 + r) + (s % 8 + f)) % 8 = s % 8 + f := by omega
      have e2 : (8 * (s / 8 + r) + (s % 8 + f)) / 8 = s / 8 + r := by omega
      refine ⟨hs.1, hs.2, by omega, ?_, ?_⟩
      · unfold mu
        rw [e1, e2]
        repeat' split
        all_goals omega
      · unfold mu
        repeat' split
        all_goals omega
    · rw [findZ_out hf] at h; omega
  · rw [stepZ_out hs] at h; omega
/-- the squares along a way, simply. -/
def wz (f r : Int) : Nat → Int → List Int
  | 0, _ => []
  | n + 1, s => if stepZ s f r < 0 then [] else stepZ s f r :: wz f r n (stepZ s f r)
theorem walkF_wz {f r : Int} (hne : ¬ (f = 0 ∧ r = 0)) : ∀ (n : Nat) (s : Int), walkF f r n s = wz f r n s
  | 0, _ => rfl
  | n + 1, s => by
    unfold walkF wz
    rw [stp_z]
    by_cases h : stepZ s f r < 0
    · rw [if_pos h, if_pos h]; rfl
    · rw [if_neg h, if_neg h]
      simp only [if_true]
      rw [if_neg (by simp; omega), walkF_wz hne n]
theorem walkF_zero (n : Nat) (s : Int) : walkF 0 0 n s = [] := by
  cases n with
  | zero => rfl
  | succ n => unfold walkF; simp
theorem wz_more {f r : Int} (hne : ¬ (f = 0 ∧ r = 0)) : ∀ (n m : Nat) (s : Int), mu f r s < n → mu f r s < m → wz f r n s = wz f r m s
  | 0, m, s, h, _ => by omega
  | n + 1, 0, s, _, h => by omega
  | n + 1, m + 1, s, h1, h2 => by
    unfold wz
    by_cases h : stepZ s f r < 0
    · rw [if_pos h, if_pos h]
    · have := mu_step (s := s) (f := f) (r := r) (by omega) hne
      rw [if_neg h, if_neg h, wz_more hne n m _ (by omega) (by omega)]
theorem mu_le {f r s : Int} (h0 : 0 ≤ s) (h1 : s < 64) : mu f r s ≤ 7 := by
  unfold mu
  repeat' split
  all_goals omega
theorem rRay_l {f r : Int} (hne : ¬ (f = 0 ∧ r = 0)) : ∀ (n k : Nat) (acc : List Int) (x : Int), x < 64 → (x < 0 ∨ mu f r x < n) → n + 100 < k → acc.length + n < 1000 →
    i_alfilref06_Ray.l0 k f r acc x = some (acc ++ (if x < 0 then [] else x :: wz f r n x)) ∧ i_alfilref06_Ray.l1 k f r acc x = some (acc ++ (if x < 0 then [] else x :: wz f r n x)) := by
  intro n
  induction n with
  | zero =>
    intro k acc x hx hm hk ha
    obtain ⟨k, rfl⟩ : ∃ j, k = j + 1 := ⟨k - 1, by omega⟩
    have h : x < 0 := by omega
    rw [i_alfilref06_Ray.l0, i_alfilref06_Ray.l1, if_neg (show ¬ x ≥ 0 by omega), if_neg (show ¬ x ≥ 0 by omega), if_pos h]; simp
  | succ n ih =>
    intro k acc x hx hm hk ha
    obtain ⟨k, rfl⟩ : ∃ j, k = j + 1 := ⟨k - 1, by omega⟩
    rw [i_alfilref06_Ray.l0, i_alfilref06_Ray.l1]
    by_cases h : x < 0
    · rw [if_neg (show ¬ x ≥ 0 by omega), if_neg (show ¬ x ≥ 0 by omega), if_pos h]; simp
    · have c1 : x ≥ 0 := by omega
      have c2 : acc.length < 17592186044416 := by omega
      rw [if_pos c1, if_pos c1, if_pos c2, if_pos c2, rStep _ _ _ (by omega), Option.bind_some, Option.bind_some, if_neg h]
      have e : wz f r (n + 1) x = if stepZ x f r < 0 then [] else stepZ x f r :: wz f r n (stepZ x f r) := rfl
      have h64 : stepZ x f r < 64 := by have := stepZ_cases x f r; omega
      have hi := ih k (acc ++ [x]) (stepZ x f r) h64 (by
        by_cases hs : stepZ x f r < 0
        · exact .inl hs
        · have := mu_step (s := x) (f := f) (r := r) (by omega) hne; omega) (by omega) (by simp; omega)
      rw [hi.1, hi.2, e]
      simp
theorem rRay (s f r : Int) {k : Nat} (hk : 300 < k) : i_alfilref06_Ray.f k s f r = some (walkF f r 64 s) := by
  have hmain : ¬ (f = 0 ∧ r = 0) → i_alfilref01_Step.f k s f r = some (stepZ s f r) ∧ walkF f r 64 s = (if stepZ s f r < 0 then [] else stepZ s f r :: wz f r 63 (stepZ s f r)) := fun hne => ⟨rStep _ _ _ (by omega), by rw [walkF_wz hne]; rfl⟩
  have h64 : stepZ s f r < 64 := by have := stepZ_cases s f r; omega
  have hmu : ¬ (f = 0 ∧ r = 0) → stepZ s f r < 0 ∨ mu f r (stepZ s f r) < 63 := fun hne => by
    by_cases hs : stepZ s f r < 0
    · exact .inl hs
    · have := mu_step (s := s) (f := f) (r := r) (by omega) hne; omega
  rw [i_alfilref06_Ray.f]
  by_cases h0 : f = 0
  · rw [if_pos h0]
    by_cases h1 : r = 0
    · rw [if_pos h1, h0, h1, walkF_zero]
    · have hne : ¬ (f = 0 ∧ r = 0) := fun h => h1 h.2
      obtain ⟨e1, e2⟩ := hmain hne
      rw [if_neg h1, e1, Option.bind_some, (rRay_l hne 63 k [] _ h64 (hmu hne) (by omega) (by simp)).1, e2]; simp
  · have hne : ¬ (f = 0 ∧ r = 0) := fun h => h0 h.1
    obtain ⟨e1, e2⟩ := hmain hne
    rw [if_neg h0, e1, Option.bind_some, (rRay_l hne 63 k [] _ h64 (hmu hne) (by omega) (by simp)).2, e2]; simp
theorem rSame_l {a : List Int} (ha : a.length ≤ 1000) : ∀ (d i k : Nat), i + d = a.length → d < k → i_alfilref01_Same.l0 k a a i = some true := by
  intro d
  induction d with
  | zero => intro i k hi hk; obtain ⟨k, rfl⟩ : ∃ j, k = j + 1 := ⟨k - 1, by omega⟩; rw [i_alfilref01_Same.l0, if_neg (by omega)]
  | succ d ih =>
    intro i k hi hk; obtain ⟨k, rfl⟩ : ∃ j, k = j + 1 := ⟨k - 1, by omega⟩
    have es : wrap64 ((i : Int) + 1) = ((i + 1 : Nat) : Int) := by rw [q64 (by omega) (by omega)]; rfl
    rw [i_alfilref01_Same.l0, if_pos (by omega), if_pos (by omega), if_pos (by omega), if_pos rfl, es]; exact ih (i + 1) k (by omega) (by omega)
theorem rSame {a : List Int} (ha : a.length ≤ 1000) {k : Nat} (hk : 1000 < k) : i_alfilref01_Same.f k a a = some true := by
  rw [i_alfilref01_Same.f, if_pos rfl]; exact rSame_l ha a.length 0 k (Nat.zero_add _) (by omega)
/-- what lies ahead of a square. -/
def cutAt (b : Int) : List Int → Option (List Int)
  | [] => none
  | x :: l => if x = b then some [] else (cutAt b l).map (x :: ·)
def lineL (b : Int) : List (List Int) → List Int
  | [] => []
  | r :: R => match cutAt b r with | some c => c | none => lineL b R
def room (R : List (List Int)) : Nat := (R.map fun r => r.length + 2).sum
theorem drop_nt {α : Type} {l : List α} {i : Nat} (d : α) (h : i < l.length) : l.drop i = nt l i d :: l.drop (i + 1) := by
  rw [List.drop_eq_getElem_cons h]; congr 1; unfold nt; simp [List.getD, List.getElem?_eq_getElem h]
theorem up1 {n : Nat} (h : n < 1000) : wrap64 ((n : Int) + 1) = ((n + 1 : Nat) : Int) := by rw [q64 (by omega) (by omega)]; rfl
theorem line_in {T : List (List Int)} (b : Int) {i : Nat} (hlt : i < T.length) (hi1 : i < 1000) (R : List Int) (M : Nat) (hl : (nt T i []).length ≤ 100) (next : ∀ k, M < k → i_rays_Table_Line.l0 k b T ((i + 1 : Nat) : Int) = some R ∧ i_alfilref06_Line.l0 k b T ((i + 1 : Nat) : Int) = some R) :
    ∀ (d j : Nat), j + d = (nt T i []).length → ∀ k, d + 1 + M < k →
      i_rays_Table_Line.l1 k b i T j = some (match cutAt b ((nt T i []).drop j) with | some c => (nt T i []).take j ++ c | none => R) ∧ i_alfilref06_Line.l1 k b i T j = some (match cutAt b ((nt T i []).drop j) with | some c => (nt T i []).take j ++ c | none => R) := by
  have es : wrap64 ((i : Int) + 1) = ((i + 1 : Nat) : Int) := up1 hi1
  have c0 : 0 ≤ (i : Int) := Int.natCast_nonneg i
  have c1 : (i : Int) < (T.length : Int) := Int.ofNat_lt.2 hlt
  generalize hr : nt T i [] = r
  rw [hr] at hl
  intro d
  induction d with
  | zero =>
    intro j hj k hk
    obtain ⟨k, rfl⟩ : ∃ q, k = q + 1 := ⟨k - 1, by omega⟩
    have hi2 := next k (by omega)
    have c2 : ¬ (j : Int) < (r.length : Int) := by omega
    rw [i_rays_Table_Line.l1, i_alfilref06_Line.l1, Int.toNat_natCast, hr, if_pos c0, if_pos c1, if_neg c2, if_neg c2, List.drop_eq_nil_of_le (by omega), es, hi2.1, hi2.2]
    exact ⟨rfl, rfl⟩
  | succ d ih =>
    intro j hj k hk
    obtain ⟨k, rfl⟩ : ∃ q, k = q + 1 := ⟨k - 1, by omega⟩
    have hj2 : j < r.length := by omega
    have ej : wrap64 ((j : Int) + 1) = ((j + 1 : Nat) : Int) := up1 (by omega)
    have hi2 := ih (j + 1) (by omega) k (by omega)
    clear ih next hk
    have c2 : (j : Int) < (r.length : Int) := Int.ofNat_lt.2 hj2
    have c3 : 0 ≤ (j : Int) := Int.natCast_nonneg j
    have c4 : (j : Int) ≤ (r.length : Int) := Int.le_of_lt c2
    rw [i_rays_Table_Line.l1, i_alfilref06_Line.l1, Int.toNat_natCast, Int.toNat_natCast, hr, if_pos c0, if_pos c1, if_pos c2, if_pos c2, if_pos c3, if_pos c3, if_pos c4, Option.bind_some, ej, hi2.1, hi2.2, drop_nt 0 hj2]
    rw [show cutAt b (nt r j 0 :: r.drop (j + 1)) = if nt r j 0 = b then some [] else (cutAt b (r.drop (j + 1))).map (nt r j 0 :: ·) from rfl]
    by_cases hb : nt r j 0 = b
    · simp only [if_pos hb]; simp
    · simp only [if_neg hb]
      have et : r.take (j + 1) = r.take j ++ [nt r j 0] := by
        rw [List.take_add_one]; congr 1; unfold nt; simp [List.getD, List.getElem?_eq_getElem hj2]
      rw [et]
      cases cutAt b (r.drop (j + 1)) with
      | none => exact ⟨rfl, rfl⟩
      | some c => simp
theorem line_p {T : List (List Int)} (hT : T.length ≤ 100) (hr : ∀ r ∈ T, r.length ≤ 100) (b : Int) : ∀ (d i : Nat), i + d = T.length → ∀ k, room (T.drop i) < k →
    i_rays_Table_Line.l0 k b T i = some (lineL b (T.drop i)) ∧ i_alfilref06_Line.l0 k b T i = some (lineL b (T.drop i)) := by
  intro d
  induction d with
  | zero =>
    intro i hi k hk
    obtain ⟨k, rfl⟩ : ∃ j, k = j + 1 := ⟨k - 1, by omega⟩
    have c1 : ¬ (i : Int) < (T.length : Int) := by omega
    rw [i_rays_Table_Line.l0, i_alfilref06_Line.l0, if_neg c1, if_neg c1, List.drop_eq_nil_of_le (by omega)]; exact ⟨rfl, rfl⟩
  | succ d ih =>
    intro i hi k hk
    obtain ⟨k, rfl⟩ : ∃ j, k = j + 1 := ⟨k - 1, by omega⟩
    have hlt : i < T.length := by omega
    have c0 : 0 ≤ (i : Int) := Int.natCast_nonneg i
    have c1 : (i : Int) < (T.length : Int) := Int.ofNat_lt.2 hlt
    rw [drop_nt [] hlt] at hk ⊢
    have hmem : nt T i [] ∈ T := by unfold nt; rw [List.getD_eq_getElem?_getD, List.getElem?_eq_getElem hlt]; exact List.getElem_mem _
    have hl := hr _ hmem
    have er : room (nt T i [] :: T.drop (i + 1)) = (nt T i []).length + 2 + room (T.drop (i + 1)) := by unfold room; simp
    rw [er] at hk
    have h0 := line_in b hlt (by omega) (lineL b (T.drop (i + 1))) (room (T.drop (i + 1))) hl (fun k hk => ih (i + 1) (by omega) k hk) (nt T i []).length 0 (Nat.zero_add _) k (by omega)
    rw [List.drop_zero, List.take_zero] at h0
    rw [i_rays_Table_Line.l0, i_alfilref06_Line.l0, if_pos c1, if_pos c1, if_pos c0]
    unfold lineL
    refine ⟨h0.1.trans ?_, h0.2.trans ?_⟩ <;> (cases cutAt b (nt T i []) <;> simp)
end Go.Proofs.Ytpjocgebnodnoaa
