/- Rays in plain words: the reference's rays of a queen; tables that the kernel looks through; the laws. -/
import Derived.Test.YtpjocgebnodnoaaYp
namespace Go.Proofs.Ytpjocgebnodnoaa
open Go.RowKit
set_option linter.unusedVariables false
set_option linter.unusedSimpArgs false
def queenL : List Int := [0, 1, 1, 0, 0, -1, -1, 0, 1, 1, 1, -1, -1, -1, -1, 1]
def queenP : List (Int × Int) := [(0, 1), (1, 0), (0, -1), (-1, 0), (1, 1), (1, -1), (-1, -1), (-1, 1)]
theorem queen_at : ∀ j : Fin 8, nt queenL (2 * j.val) 0 = (nt queenP j.val (0, 0)).1 ∧ nt queenL (2 * j.val + 1) 0 = (nt queenP j.val (0, 0)).2 := by decide +kernel
theorem queen_s : stepsL 5 = queenP ∧ stepsM 5 = 64 := by decide +kernel
theorem rSteps5 {k : Nat} (hk : 100 < k) : i_alfilref06_Steps.f k 5 = some queenL := by
  rw [i_alfilref06_Steps.f, rKind (by omega) (by omega) (by omega), Option.bind_some, show kindZ 5 = 5 by decide]
  rfl
theorem rSlides5 {k : Nat} (hk : 100 < k) : i_alfilref06_Slides.f k 5 = some true := by
  rw [i_alfilref06_Slides.f, rKind (by omega) (by omega) (by omega), Option.bind_some, show kindZ 5 = 5 by decide]
  rfl
theorem rOf5_l (s : Int) : ∀ (d j k : Nat) (acc : List (List Int)), j + d = 8 → d + 400 < k → acc.length ≤ j →
    i_alfilref06_Of.l0 k 5 s queenL acc ((2 * j : Nat) : Int) = some (acc ++ (((queenP.drop j).map fun x => walkF x.1 x.2 64 s).filter fun l => !l.isEmpty)) := by
  intro d
  induction d with
  | zero =>
    intro j k acc hj hk ha
    obtain ⟨k, rfl⟩ : ∃ q, k = q + 1 := ⟨k - 1, by omega⟩
    have c : ¬ ((2 * j : Nat) : Int) < (queenL.length : Int) := by rw [show queenL.length = 16 from rfl]; omega
    rw [i_alfilref06_Of.l0, if_neg c, show j = 8 by omega]; simp [queenP]
  | succ d ih =>
    intro j k acc hj hk ha
    obtain ⟨k, rfl⟩ : ∃ q, k = q + 1 := ⟨k - 1, by omega⟩
    have q := queen_at ⟨j, by omega⟩
    have c1 : ((2 * j : Nat) : Int) < (queenL.length : Int) := by rw [show queenL.length = 16 from rfl]; omega
    have c2 : 0 ≤ ((2 * j : Nat) : Int) := by omega
    have e1 : wrap64 (((2 * j : Nat) : Int) + 1) = ((2 * j + 1 : Nat) : Int) := by rw [q64 (by omega) (by omega)]; rfl
    have e2 : wrap64 (((2 * j : Nat) : Int) + 2) = ((2 * (j + 1) : Nat) : Int) := by rw [q64 (by omega) (by omega)]; omega
    have c3 : 0 ≤ ((2 * j + 1 : Nat) : Int) := by omega
    have c4 : ((2 * j + 1 : Nat) : Int) < (queenL.length : Int) := by rw [show queenL.length = 16 from rfl]; omega
    have c5 : acc.length < 5864062014805 := by omega
    have ih1 := fun acc' (h : acc'.length ≤ j + 1) => ih (j + 1) k acc' (by omega) (by omega) h
    have hs := rSlides5 (k := k) (by omega)
    have hr := rRay s (nt queenP j (0, 0)).1 (nt queenP j (0, 0)).2 (k := k) (by omega)
    have ed : queenP.drop j = nt queenP j (0, 0) :: queenP.drop (j + 1) := drop_nt _ (by show j < 8; omega)
    clear ih
    rw [i_alfilref06_Of.l0, if_pos c1, if_pos c2, e1, if_pos c3, if_pos c4, Int.toNat_natCast, Int.toNat_natCast, q.1, q.2, hr, Option.bind_some, e2, ed, List.map_cons, List.filter_cons]
    generalize walkF (nt queenP j (0, 0)).1 (nt queenP j (0, 0)).2 64 s = l
    have h1 := ih1 (acc ++ [l]) (by simp; omega)
    have h2 := ih1 acc (by omega)
    clear ih1 hr
    have fin0 : (if (l.length : Int) > 0 then (if acc.length < 5864062014805 then (i_alfilref06_Of.l0 k 5 s queenL (acc ++ [l]) ((2 * (j + 1) : Nat) : Int)) else (none)) else (i_alfilref06_Of.l0 k 5 s queenL acc ((2 * (j + 1) : Nat) : Int))) =
        some (acc ++ if (!l.isEmpty) = true then l :: List.filter (fun l => !l.isEmpty) (List.map (fun x => walkF x.1 x.2 64 s) (queenP.drop (j + 1))) else List.filter (fun l => !l.isEmpty) (List.map (fun x => walkF x.1 x.2 64 s) (queenP.drop (j + 1)))) := by
      cases l with
      | nil => rw [if_neg (by simp), h2]; rfl
      | cons x l => rw [if_pos (by simp), if_pos c5, h1]; simp
    by_cases hl : (l.length : Int) > 1
    · rw [if_pos hl, hs, Option.bind_some, if_pos rfl]; exact fin0
    · rw [if_neg hl]; exact fin0
theorem rOf5 (s : Int) {k : Nat} (hk : 500 < k) : i_alfilref06_Of.f k 5 s = some (raysZ 5 s) := by
  rw [i_alfilref06_Of.f, rSteps5 (by omega), Option.bind_some]
  have := rOf5_l s 8 0 k [] rfl (by omega) (Nat.le_refl _)
  rw [List.nil_append, List.drop_zero] at this
  unfold raysZ
  rw [if_neg (by decide), queen_s.1, queen_s.2]; exact this
theorem walkF_off {f r s : Int} (h : ¬ (0 ≤ s ∧ s < 64)) (n : Nat) : walkF f r n s = [] := by
  cases n with
  | zero => rfl
  | succ n => unfold walkF; rw [stp_z, stepZ_out h]; rfl
theorem rays_off {man s : Int} (h : ¬ (0 ≤ s ∧ s < 64)) : raysZ man s = [] := by
  unfold raysZ
  split
  · rfl
  · rw [List.filter_eq_nil_iff]
    intro l hl
    obtain ⟨x, _, rfl⟩ := List.mem_map.1 hl
    rw [walkF_off h]; simp
/-- simpler for the kernel. -/
def rq (man s : Int) : List (List Int) := ((stepsL man).map fun x => wz x.1 x.2 (stepsM man) s).filter fun l => !l.isEmpty
theorem steps_move : ∀ m : Fin 13, m.val ≠ 6 → ∀ x ∈ stepsL ((m.val : Int) - 6), ¬ (x.1 = 0 ∧ x.2 = 0) := by decide +kernel
theorem rays_rq {man : Int} (h0 : -6 ≤ man) (h1 : man ≤ 6) (h2 : man ≠ 0) (s : Int) : raysZ man s = rq man s := by
  unfold raysZ rq
  rw [if_neg h2]
  congr 1
  apply List.map_congr_left
  intro x hx
  have hm := steps_move ⟨(man + 6).toNat, by omega⟩ (by show (man + 6).toNat ≠ 6; omega) x
  have e : (((⟨(man + 6).toNat, by omega⟩ : Fin 13).val : Int) - 6) = man := by show ((man + 6).toNat : Int) - 6 = man; omega
  rw [e] at hm
  exact walkF_wz (hm hx) _ _
theorem pOf {man s : Int} {k : Nat} : i_rays_Table_Of.f k true man s = some (if manB man = true then raysZ man s else []) := by
  unfold i_rays_Table_Of.f
  congr 1
  by_cases hm : manB man = true
  · rw [if_pos hm]
    by_cases hs : 0 ≤ s ∧ s < 64
    · rw [if_pos ⟨rfl, hm, hs⟩]
    · rw [if_neg (fun h => hs h.2.2), rays_off hs]
  · rw [if_neg hm, if_neg (fun h => hm h.2.1)]
theorem rays5_bd (s : Int) : (raysZ 5 s).length ≤ 8 ∧ (∀ r ∈ raysZ 5 s, r.length ≤ 64) := by
  refine ⟨Nat.le_trans rays_len (by rw [queen_s.1]; decide), fun r hr => ?_⟩
  unfold raysZ at hr
  rw [if_neg (by decide)] at hr
  obtain ⟨x, _, rfl⟩ := List.mem_map.1 (List.mem_filter.1 hr).1
  exact Nat.le_trans (walkF_len ..) (by rw [queen_s.2]; exact Nat.le_refl _)
theorem room_le : ∀ (R : List (List Int)), (∀ r ∈ R, r.length ≤ 64) → room R ≤ 66 * R.length
  | [], _ => Nat.le_refl _
  | r :: R, h => by
    have := room_le R (fun x hx => h x (List.mem_cons_of_mem _ hx))
    have := h r (List.mem_cons_self ..)
    show (r.length + 2) + room R ≤ _
    rw [List.length_cons]; omega
theorem lines5 (a b : Int) {k : Nat} (hk : 2000 < k) : i_rays_Table_Line.f k true a b = some (lineL b (raysZ 5 a)) ∧ i_alfilref06_Line.f k a b = some (lineL b (raysZ 5 a)) := by
  have hb := rays5_bd a
  have := room_le _ hb.2
  have hl := line_p (T := raysZ 5 a) (by omega) (fun r hr => Nat.le_trans (hb.2 r hr) (by omega)) b (raysZ 5 a).length 0 (Nat.zero_add _) k (by rw [List.drop_zero]; omega)
  rw [List.drop_zero] at hl
  rw [i_rays_Table_Line.f, i_alfilref06_Line.f, pOf, Option.bind_some, rOf5 a (by omega), Option.bind_some, if_pos (by decide)]
  exact hl
theorem cutAt_none {b : Int} : ∀ {l : List Int}, b ∉ l → cutAt b l = none
  | [], _ => rfl
  | x :: l, h => by unfold cutAt; rw [if_neg (fun e => h (by rw [e]; exact List.mem_cons_self ..)), cutAt_none (fun hm => h (List.mem_cons_of_mem _ hm))]; rfl
theorem lineL_none {b : Int} : ∀ {R : List (List Int)}, (∀ r ∈ R, b ∉ r) → lineL b R = []
  | [], _ => rfl
  | r :: R, h => by unfold lineL; rw [cutAt_none (h r (List.mem_cons_self ..))]; exact lineL_none fun x hx => h x (List.mem_cons_of_mem _ hx)
theorem cutAt_len {b : Int} : ∀ {l c : List Int}, cutAt b l = some c → c.length ≤ l.length
  | [], c, h => by cases h
  | x :: l, c, h => by
    unfold cutAt at h
    split at h
    · injection h with h; subst h; simp
    · cases e : cutAt b l with
      | none => rw [e] at h; cases h
      | some d => rw [e] at h; injection h with h; subst h; have := cutAt_len e; simp; exact this
theorem lineL_len {b : Int} : ∀ {R : List (List Int)}, (∀ r ∈ R, r.length ≤ 64) → (lineL b R).length ≤ 64
  | [], _ => by simp [lineL]
  | r :: R, h => by
    unfold lineL
    cases e : cutAt b r with
    | none => exact lineL_len fun x hx => h x (List.mem_cons_of_mem _ hx)
    | some c => exact Nat.le_trans (cutAt_len e) (h r (List.mem_cons_self ..))
theorem walk_on {f r : Int} : ∀ (n : Nat) (s x : Int), x ∈ walkF f r n s → 0 ≤ x ∧ x < 64
  | 0, s, x, h => by cases h
  | n + 1, s, x, h => by
    unfold walkF at h
    rw [stp_z] at h
    by_cases hs : stepZ s f r < 0
    · rw [if_pos hs] at h; cases h
    · rw [if_neg hs] at h
      simp only [if_true] at h
      split at h
      · cases h
      · rcases List.mem_cons.1 h with rfl | h
        · have := stepZ_cases s f r; omega
        · exact walk_on n _ x h
theorem rays_on {man s : Int} {r : List Int} (h : r ∈ raysZ man s) {x : Int} (hx : x ∈ r) : 0 ≤ x ∧ x < 64 := by
  unfold raysZ at h
  split at h
  · cases h
  · obtain ⟨y, _, rfl⟩ := List.mem_map.1 (List.mem_filter.1 h).1
    exact walk_on _ _ x hx
end Go.Proofs.Ytpjocgebnodnoaa
