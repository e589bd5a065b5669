import Derived.Test.YtaipghemddjecaaRoz
import Derived.Test.YtaipghemddjecaaFuz
namespace Go.Proofs.Ytaipghemddjecaa
open Go.RowKit
set_option linter.unusedVariables false
set_option linter.unusedSimpArgs false
def genF {σ : Type} (run : Nat → Option σ) (fin : σ → Option (List Int)) : Nat → Nat → List Int × Int × Int
  | 0, i => match run i with
    | some s => (match fin s with
      | some b => (b, (i : Int), 0)
      | none => (zL, (i : Int), 1))
    | none => (zL, (i : Int), 2)
  | d + 1, i => match run (i + 1) with
    | some _ => genF run fin d (i + 1)
    | none => (zL, (i : Int), 2)
section
variable {σ : Type} {run run' : Nat → Option σ} {fin fin' : σ → Option (List Int)}
theorem gen_bd (run : Nat → Option σ) (fin : σ → Option (List Int)) : ∀ (d i : Nat), (i : Int) ≤ (genF run fin d i).2.1 ∧ (genF run fin d i).2.1 ≤ ((i + d : Nat) : Int) ∧ ((genF run fin d i).2.2 = 0 ∨ (genF run fin d i).2.2 = 1 ∨ (genF run fin d i).2.2 = 2)
  | 0, i => by
    unfold genF
    cases run i with
    | none => exact ⟨Int.le_refl _, by dsimp only; omega, .inr (.inr rfl)⟩
    | some s =>
      dsimp only
      cases fin s with
      | none => exact ⟨Int.le_refl _, by dsimp only; omega, .inr (.inl rfl)⟩
      | some b => exact ⟨Int.le_refl _, by dsimp only; omega, .inl rfl⟩
  | d + 1, i => by
    unfold genF
    cases run (i + 1) with
    | none => exact ⟨Int.le_refl _, by dsimp only; omega, .inr (.inr rfl)⟩
    | some s =>
      dsimp only
      have := gen_bd run fin d (i + 1)
      omega
theorem gen_goes (T : Nat) (hr : ∀ n, n ≤ T → run' n = run n) (e : Nat) : ∀ (d i : Nat), i + d = T → run i ≠ none →
    ((genF run fin d i).2.2 = 2 ∧ (genF run fin d i).2.1 < T ∧ genF run' fin' (d + e) i = genF run fin d i) ∨
    (((genF run fin d i).2.2 = 0 ∨ (genF run fin d i).2.2 = 1) ∧ (genF run fin d i).2.1 = T ∧ (T : Int) ≤ (genF run' fin' (d + e) i).2.1)
  | 0, i, h, h0 => by
    refine .inr ?_
    have b := (gen_bd run' fin' (0 + e) i).1
    have hi : (i : Int) = (T : Int) := by omega
    rw [hi] at b
    generalize (genF run' fin' (0 + e) i).2.1 = y at b ⊢
    unfold genF
    cases hc : run i with
    | none => exact absurd hc h0
    | some s =>
      dsimp only
      cases fin s with
      | none => exact ⟨.inr rfl, hi, b⟩
      | some _ => exact ⟨.inl rfl, hi, b⟩
  | d + 1, i, h, h0 => by
    rw [show d + 1 + e = (d + e) + 1 by omega]
    rw [genF, genF, hr (i + 1) (by omega)]
    cases hc : run (i + 1) with
    | none => exact .inl ⟨rfl, by dsimp only; omega, rfl⟩
    | some s =>
      dsimp only
      exact gen_goes T hr e d (i + 1) (by omega) (by rw [hc]; simp)
end
structure BGood (rd : ByteArray → List Int × Int × Int) : Prop where
  bd : ∀ u, 0 ≤ (rd u).2.1 ∧ (rd u).2.1 ≤ u.size ∧ ((rd u).2.2 = 0 ∨ (rd u).2.2 = 1 ∨ (rd u).2.2 = 2)
  goes : ∀ u m, ((rd u).2.2 = 2 ∧ (rd u).2.1 < u.size ∧ rd (u ++ m) = rd u) ∨ (((rd u).2.2 = 0 ∨ (rd u).2.2 = 1) ∧ (rd u).2.1 = u.size ∧ (u.size : Int) ≤ (rd (u ++ m)).2.1)
theorem rdF_gen (t : ByteArray) : ∀ (d i : Nat), rdF t d i = genF (runS t) (fun s => if s.1.length = 64 then some (bd s.1) else none) d i
  | 0, i => by
    unfold rdF genF
    cases runS t i with
    | none => rfl
    | some s => simp only []; by_cases h : s.1.length = 64 <;> simp [h]
  | d + 1, i => by
    unfold rdF genF
    cases runS t (i + 1) with
    | none => rfl
    | some s => exact rdF_gen t d (i + 1)
theorem runS_app (t m : ByteArray) : ∀ n, n ≤ t.size → runS (t ++ m) n = runS t n
  | 0, _ => rfl
  | n + 1, h => by rw [runS, runS, runS_app t m n (by omega), bt_app t m (by omega)]
theorem rdZ_good : BGood rdZ := by
  refine ⟨fun u => ?_, fun u m => ?_⟩
  · unfold rdZ
    rw [rdF_gen]
    have := gen_bd (runS u) (fun s => if s.1.length = 64 then some (bd s.1) else none) u.size 0
    omega
  · unfold rdZ
    rw [rdF_gen, rdF_gen, size_app]
    exact gen_goes u.size (fun n hn => runS_app u m n hn) m.size u.size 0 (by omega) (by simp [runS])
structure RI (s : RS) : Prop where
  next : s.2.1 = 39 ∨ s.2.1 = 50 ∨ s.2.1 = 59 ∨ s.2.1 = 75 ∨ s.2.1 = 82
  word : s.2.1 = 39 → 1 ≤ s.2.2.2.1.size ∧ ∀ i, bt s.2.2.2.1 i < 128
  side : s.2.2.1 = 0 ∨ s.2.2.1 = 1
  file : s.2.1 = 82 → s.2.2.2.2.2.size = 1 ∧ 97 ≤ bt s.2.2.2.2.2 0 ∧ bt s.2.2.2.2.2 0 ≤ 104
theorem one_byte {c : Int} {u : ByteArray} (hu : ∀ i, bt u i < 128) (h : (Utf8.encode c).toList = (u.extract 0 1).toList) : c < 128 := by
  rcases Int.lt_or_le c 128 with q | q
  · exact q
  · exfalso
    obtain ⟨e1, e2, e3⟩ := enc_hi q
    rw [ByteArray.toList_eq, ByteArray.toList_eq, ext_list] at h
    have h2 := hu 0
    unfold bt at e3 h2
    rw [h] at e3
    rw [List.getD_eq_getElem?_getD] at e3 h2
    rw [List.getElem?_take] at e3
    simp only [Nat.zero_lt_one, if_true] at e3
    omega
theorem make_tot (m : Int) {sd : Int} : ∃ r, i_men_Make.f m sd = some r := by
  unfold i_men_Make.f
  (repeat' split) <;> exact ⟨_, rfl⟩
theorem bt_tail (u : ByteArray) (i : Nat) : bt (u.extract 1 u.size) i = bt u (1 + i) := by
  rcases Nat.lt_or_ge (1 + i) u.size with h | h
  · exact bt_ext u 1 i h
  · rw [bt_out _ h, bt_out _ (by rw [ext_size]; omega)]
section
variable {s : RS} {c : Int} {k : Nat}
theorem st_tot (hi : RI s) (h0 : 0 ≤ c) (hk : 10 ≤ k) : ∃ b s', stepR 10 s c = some (b, s') ∧ stepR k s c = some (b, s') ∧ (b = true → c < 128 ∧ RI s') := by
  obtain ⟨B, nx, sd, w, m, f⟩ := s
  have ⟨h1, h2, h3, h4⟩ := hi
  simp only at h1 h2 h3 h4
  unfold stepR
  simp only []
  rcases h1 with rfl | rfl | rfl | rfl | rfl
  · rw [if_pos rfl, if_pos rfl]
    obtain ⟨hw, hb⟩ := h2 rfl
    unfold i_roll_words.f
    rw [if_pos (by omega)]
    by_cases e : (Utf8.encode c).toList = (w.extract 0 1).toList
    · rw [if_pos e]
      by_cases e2 : (w.extract 1 w.size).toList = []
      · rw [if_pos e2]
        exact ⟨true, _, rfl, rfl, fun _ => ⟨one_byte hb e, ⟨.inr (.inl rfl), fun h => by simp at h, h3, fun h => by simp at h⟩⟩⟩
      · rw [if_neg e2]
        refine ⟨true, _, rfl, rfl, fun _ => ⟨one_byte hb e, ⟨.inl rfl, fun _ => ⟨?_, fun i => ?_⟩, h3, fun h => by simp at h⟩⟩⟩
        · rcases Nat.eq_zero_or_pos (w.extract 1 w.size).size with q | q
          · exfalso
            apply e2
            rw [ByteArray.toList_eq]
            exact List.eq_nil_of_length_eq_zero (by simpa using q)
          · exact q
        · simp only []; rw [bt_tail]; exact hb _
    · rw [if_neg e]; exact ⟨false, _, rfl, rfl, fun h => by cases h⟩
  · rw [if_neg (by decide), if_pos rfl, if_neg (by decide), if_pos rfl]
    unfold i_roll_blank.f
    refine ⟨_, _, rfl, rfl, fun h => ⟨by have := beq_iff_eq.1 h; omega, ⟨.inr (.inr (.inl rfl)), fun h => by simp at h, h3, fun h => by simp at h⟩⟩⟩
  · rw [if_neg (by decide), if_neg (by decide), if_pos rfl, if_neg (by decide), if_neg (by decide), if_pos rfl]
    unfold i_roll_letter.f
    obtain ⟨r, hr⟩ := make_tot (ofZ (Utf8.encode c)) (sd := sd)
    rw [hr]
    simp only [Option.bind_some]
    have fin : ∃ b s', (if (ofZ (Utf8.encode c) != 0) = true then (if (ofZ (Utf8.encode c)) > 0 then (some (decide (c ≤ 90), B, (75 : Int), sd, w, r, f)) else (some (false, B, 75, sd, w, r, f))) else (some (false, B, 75, sd, w, r, f))) = some (b, s') ∧
        (b = true → c < 128 ∧ RI s') := by
      split
      · split
        · exact ⟨_, _, rfl, fun h => ⟨by have := of_decide_eq_true h; omega, ⟨.inr (.inr (.inr (.inl rfl))), fun h => by simp at h, h3, fun h => by simp at h⟩⟩⟩
        · exact ⟨_, _, rfl, fun h => by cases h⟩
      · exact ⟨_, _, rfl, fun h => by cases h⟩
    by_cases hs : sd = 0
    · rw [if_pos hs]
      by_cases hc : c = 98
      · rw [if_pos hc]
        refine ⟨_, _, rfl, rfl, fun _ => ⟨by omega, ⟨.inl rfl, fun _ => ⟨(show 1 ≤ ((⟨#[98, 108, 97, 99, 107]⟩ : ByteArray).extract 1 (⟨#[98, 108, 97, 99, 107]⟩ : ByteArray).size).size by decide +kernel), fun i => ?_⟩, .inr rfl, fun h => by simp at h⟩⟩⟩
        simp only []
        rw [show (⟨#[98, 108, 97, 99, 107]⟩ : ByteArray).extract 1 (⟨#[98, 108, 97, 99, 107]⟩ : ByteArray).size = ⟨#[108, 97, 99, 107]⟩ by decide +kernel]
        match i with
        | 0 => decide
        | 1 => decide
        | 2 => decide
        | 3 => decide
        | n + 4 => rw [bt_out _ (show (⟨#[108, 97, 99, 107]⟩ : ByteArray).size ≤ n + 4 from Nat.le_add_left _ _)]; decide
      · rw [if_neg hc]
        obtain ⟨b, s', e1, e2⟩ := fin
        exact ⟨b, s', e1, e1, e2⟩
    · rw [if_neg hs]
      obtain ⟨b, s', e1, e2⟩ := fin
      exact ⟨b, s', e1, e1, e2⟩
  · rw [if_neg (by decide), if_neg (by decide), if_neg (by decide), if_pos rfl, if_neg (by decide), if_neg (by decide), if_neg (by decide), if_pos rfl]
    unfold i_roll_file.f
    by_cases hc : c ≥ 97
    · rw [if_pos hc]
      refine ⟨_, _, rfl, rfl, fun h => ?_⟩
      have hc2 := of_decide_eq_true h
      obtain ⟨e1, e2⟩ := enc_lo h0 (show c < 128 by omega)
      exact ⟨by omega, ⟨.inr (.inr (.inr (.inr rfl))), fun h => by simp at h, h3, fun _ => ⟨e1, by simp only []; omega, by simp only []; omega⟩⟩⟩
    · rw [if_neg hc]; exact ⟨false, _, rfl, rfl, fun h => by cases h⟩
  · rw [if_neg (by decide), if_neg (by decide), if_neg (by decide), if_neg (by decide), if_pos rfl, if_neg (by decide), if_neg (by decide), if_neg (by decide), if_neg (by decide), if_pos rfl]
    obtain ⟨f1, f2, f3⟩ := h4 rfl
    have E : 0 < (Utf8.encode c).size ∧ (Utf8.encode c).size ≤ 4 ∧ (c < 128 → (Utf8.encode c).size = 1 ∧ bt (Utf8.encode c) 0 = c) ∧ (128 ≤ c → 128 ≤ bt (Utf8.encode c) 0) := by
      rcases Int.lt_or_le c 128 with q | q
      · obtain ⟨e1, e2⟩ := enc_lo h0 q
        exact ⟨by omega, by omega, fun _ => ⟨e1, e2⟩, fun h => by omega⟩
      · obtain ⟨e1, e2, e3⟩ := enc_hi q
        exact ⟨e1, e2, fun h => by omega, fun _ => e3⟩
    obtain ⟨E1, E2, E3, E4⟩ := E
    have X0 : bt (f ++ Utf8.encode c) 0 = bt f 0 := bt_app _ _ (by omega)
    have X1 : bt (f ++ Utf8.encode c) 1 = bt (Utf8.encode c) 0 := by rw [bt_app2 _ _ (by omega), f1]
    have XS := size_app f (Utf8.encode c)
    unfold i_roll_rank.f
    rw [if_pos (by omega), if_pos (by omega)]
    by_cases hd : 49 ≤ bt (f ++ Utf8.encode c) 1 ∧ bt (f ++ Utf8.encode c) 1 ≤ 56
    · have hc : c < 128 := by
        rcases Int.lt_or_le c 128 with q | q
        · exact q
        · have := E4 q; omega
      obtain ⟨e1, e2⟩ := E3 hc
      rw [parse_2 (by omega) (by omega) hd (by omega), parse_2 (by omega) (by omega) hd (by omega)]
      simp only [Option.bind_some, if_true]
      rw [if_pos (by omega), if_pos (by omega)]
      split
      · exact ⟨true, _, rfl, rfl, fun _ => ⟨hc, ⟨.inr (.inl rfl), fun h => by simp at h, h3, fun h => by simp at h⟩⟩⟩
      · exact ⟨false, _, rfl, rfl, fun h => by cases h⟩
    · rw [parse_1 (by omega) (by omega) hd (by omega), parse_1 (by omega) (by omega) hd (by omega)]
      exact ⟨false, _, rfl, rfl, fun h => by cases h⟩
end
def initR : RS := (zL, 39, 0, ⟨#[119, 104, 105, 116, 101]⟩, 0, ⟨#[]⟩)
def runR (t : ByteArray) : Nat → Option RS
  | 0 => some initR
  | n + 1 => (runR t n).bind fun s => match stepR 10 s (bt t n) with
    | some (true, s') => some s'
    | _ => none
def finR (t : ByteArray) (s : RS) : Option (List Int) := if s.2.2.1 = 1 ∧ s.2.2.2.1.toList = [] ∧ overB t = true then some s.1 else none
def rlZ (t : ByteArray) : List Int × Int × Int := genF (runR t) (finR t) t.size 0
theorem init_RI : RI initR := by
  refine ⟨.inl rfl, fun _ => ⟨by decide, fun i => ?_⟩, .inl rfl, fun h => absurd h (by decide)⟩
  unfold initR
  simp only []
  match i with
  | 0 => decide
  | 1 => decide
  | 2 => decide
  | 3 => decide
  | 4 => decide
  | n + 5 => rw [bt_out _ (show (⟨#[119, 104, 105, 116, 101]⟩ : ByteArray).size ≤ n + 5 from Nat.le_add_left _ _)]; decide
theorem run_RI (t : ByteArray) : ∀ (n : Nat) (s : RS), runR t n = some s → RI s ∧ (s.2.2.1 = 1 → 0 < n)
  | 0, s, h => by
    obtain rfl := Option.some.inj h
    exact ⟨init_RI, fun h => absurd h (by decide)⟩
  | n + 1, s, h => by
    unfold runR at h
    rw [Option.bind_eq_some_iff] at h
    obtain ⟨s0, h1, h2⟩ := h
    obtain ⟨b, s', e1, _, e3⟩ := st_tot (run_RI t n s0 h1).1 (bt_lo t n) (Nat.le_refl 10)
    rw [e1] at h2
    cases b with
    | false => cases h2
    | true => obtain rfl := Option.some.inj h2; exact ⟨(e3 rfl).2, fun _ => by omega⟩
theorem rd_stepg {t : ByteArray} {p k : Nat} (s : RS) (hp : p < t.size) : rdL (k + 1) t s p = (stepR k s ((Utf8.decode t p).1 : Int)).bind fun r => if r.1 = true then rdL k t r.2 (p + (Utf8.decode t p).2) else some (zL, (p : Int), 2) := by
  unfold rdL stepR
  rw [i_roll_Read.l0, if_pos hp]
  by_cases h1 : s.2.1 = 39
  · rw [if_pos h1, if_pos h1]
  · rw [if_neg h1, if_neg h1]
    by_cases h2 : s.2.1 = 50
    · rw [if_pos h2, if_pos h2]
    · rw [if_neg h2, if_neg h2]
      by_cases h3 : s.2.1 = 59
      · rw [if_pos h3, if_pos h3]
      · rw [if_neg h3, if_neg h3]
        by_cases h4 : s.2.1 = 75
        · rw [if_pos h4, if_pos h4]
        · rw [if_neg h4, if_neg h4]
          by_cases h5 : s.2.1 = 82
          · rw [if_pos h5, if_pos h5]
          · rw [if_neg h5, if_neg h5]; rfl
theorem roll_l (t : ByteArray) (ht : t.size ≤ 1000) : ∀ (d i : Nat) (s : RS) (k : Nat), i + d = t.size → runR t i = some s → d + 12 < k → rdL k t s i = some (genF (runR t) (finR t) d i) := by
  intro d
  induction d with
  | zero =>
    intro i s k hd hs hk
    obtain ⟨k, rfl⟩ : ∃ m, k = m + 1 := ⟨k - 1, by omega⟩
    obtain ⟨hi, hp⟩ := run_RI t i s hs
    unfold rdL genF
    rw [hs, i_roll_Read.l0, if_neg (by omega)]
    simp only []
    rw [show ((t.size : Nat) : Int) = (i : Int) by omega]
    unfold i_roll_reader_over.f finR
    by_cases h1 : s.2.2.1 = 1
    · have h0 := hp h1
      rw [if_pos h1]
      by_cases h2 : s.2.2.2.1.toList = []
      · rw [if_pos h2, w64 (x := (t.size : Int) - 1) (by omega) (by omega), if_pos (by omega), if_pos (by omega), show ((t.size : Int) - 1).toNat = t.size - 1 by omega]
        have ov : overB t = (decide (bt t (t.size - 1) = 107) || (decide (49 ≤ bt t (t.size - 1)) && decide (bt t (t.size - 1) ≤ 56))) := rfl
        rw [ov]
        generalize bt t (t.size - 1) = x
        by_cases q1 : x = 107
        · subst q1; rw [if_pos rfl, if_pos ⟨h1, h2, by decide⟩]; rfl
        · rw [if_neg q1]
          by_cases q2 : x ≥ 49
          · rw [if_pos q2]
            by_cases q3 : x ≤ 56
            · rw [if_pos ⟨h1, h2, by simp; omega⟩, decide_eq_true q3]; rfl
            · rw [if_neg (fun h => by have h := h.2.2; simp at h; omega), decide_eq_false q3]; rfl
          · rw [if_neg q2, if_neg (fun h => by have h := h.2.2; simp at h; omega)]; rfl
      · rw [if_neg h2, if_neg (fun h => h2 h.2.1)]; rfl
    · rw [if_neg h1, if_neg (fun h => h1 h.1)]; rfl
  | succ d ih =>
    intro i s k hd hs hk
    obtain ⟨k, rfl⟩ : ∃ m, k = m + 1 := ⟨k - 1, by omega⟩
    obtain ⟨hi, hp⟩ := run_RI t i s hs
    have b0 := bt_lo t i
    have b1 := bt_hi t i
    rw [rd_stepg s (by omega), genF, runR, hs]
    simp only [Option.bind_some]
    obtain ⟨b, s', e1, e2, e3⟩ := st_tot (k := k) hi b0 (by omega)
    rcases Int.lt_or_le (bt t i) 128 with q | q
    · obtain ⟨d1, d2⟩ := dec_lo t i (by omega) q
      rw [d1, d2, e1, e2]
      cases b with
      | false => simp
      | true =>
        simp only [Option.bind_some, if_true]
        refine ih (i + 1) s' k (by omega) ?_ (by omega)
        rw [runR, hs]
        simp only [Option.bind_some]
        rw [e1]
    · obtain ⟨b', s2, _, g2, g3⟩ := st_tot (k := k) hi (c := ((Utf8.decode t i).1 : Int)) (by omega) (by omega)
      have hh := dec_hi t i (by omega) q
      have hb' : b' = false := by
        cases b' with
        | false => rfl
        | true => have := (g3 rfl).1; omega
      have hb : b = false := by
        cases b with
        | false => rfl
        | true => have := (e3 rfl).1; omega
      subst hb' hb
      rw [g2, e1]
      simp
theorem roll_is (t : ByteArray) (ht : t.size ≤ 1000) {k : Nat} (hk : t.size + 12 < k) : i_roll_Read.f k t = some (rlZ t) := by
  have := roll_l t ht t.size 0 initR k (by omega) rfl hk
  exact this
theorem runR_app (t m : ByteArray) : ∀ n, n ≤ t.size → runR (t ++ m) n = runR t n
  | 0, _ => rfl
  | n + 1, h => by rw [runR, runR, runR_app t m n (by omega), bt_app t m (by omega)]
theorem rlZ_good : BGood rlZ := by
  refine ⟨fun u => ?_, fun u m => ?_⟩
  · unfold rlZ
    have := gen_bd (runR u) (finR u) u.size 0
    omega
  · unfold rlZ
    rw [size_app]
    exact gen_goes u.size (fun n hn => runR_app u m n hn) m.size u.size 0 (by omega) (by simp [runR])
end Go.Proofs.Ytaipghemddjecaa
