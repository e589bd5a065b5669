/- Boards as rows of letters, in plain words: the program's Write; reading what was written; the law ForsythWrites. -/
import Derived.Test.YtpgdcpkggmkooaaFr
import Derived.Test.YtpgdcpkggmkooaaFt
import Derived.Test.YtpgdcpkggmkooaaF9w
namespace Go.Proofs.Ytpgdcpkggmkooaa
open Go.RowKit
set_option linter.unusedVariables false
set_option linter.unusedSimpArgs false
def rowsT (b : List Int) : Nat → List ByteArray
  | 0 => [rowT b 0]
  | r + 1 => rowT b (r + 1) :: rowsT b r
theorem rows_len (b : List Int) : ∀ r, (rowsT b r).length = r + 1 := by
  intro r; induction r with
  | zero => rfl
  | succ r ih => rw [rowsT, List.length_cons, ih]
theorem tail_join (sep : List UInt8) : ∀ l : List (List UInt8), l ≠ [] → Lib.joinTail sep l = sep ++ Lib.join l sep := by
  intro l h
  cases l with
  | nil => exact absurd rfl h
  | cons x r => rw [Lib.join_cons]; simp [Lib.joinTail]
theorem rows_join (b : List Int) : ∀ r, Lib.join ((rowsT b r).map (·.data.toList)) [47] = (wrT b r).data.toList := by
  intro r
  induction r with
  | zero => rw [rowsT, List.map_cons, List.map_nil, Lib.join_one, wrT]
  | succ r ih =>
    rw [rowsT, List.map_cons, Lib.join_cons, tail_join _ _ (by intro h; have := congrArg List.length h; rw [List.length_map, rows_len] at this; simp at this), ih, wrT]
    simp
theorem wr_size {b : List Int} (hb : Men b) : ∀ r, (wrT b r).size ≤ 18 * (r + 1) := by
  intro r
  induction r with
  | zero => have := rowL_size hb 0 8 0 0 (by omega) (by omega); show (rowL b 0 8 0 0).size ≤ _; omega
  | succ r ih =>
    have := rowL_size hb (r + 1) 8 0 0 (by omega) (by omega)
    rw [wrT, sz_app, sz_app]
    show (rowL b (r + 1) 8 0 0).size + (1 + _) ≤ _
    omega
theorem pw_l {b : List Int} (hb : Men b) : ∀ (r k : Nat) (l : List ByteArray), r < 8 → r + 10 < k → l.length + r < 100 → i_forsyth_Write.l0 k b l r = ((i_strings_Join.f (l ++ rowsT b r) ⟨#[47]⟩).bind fun t => some (t, 0)) := by
  intro r
  induction r with
  | zero =>
    intro k l hr hk hl
    obtain ⟨k, rfl⟩ : ∃ m, k = m + 2 := ⟨k - 2, by omega⟩
    have R := row_is hb hr (k := k + 1) (by omega)
    rw [show ((0 : Nat) : Int) = 0 from rfl] at R
    rw [show k + 2 = (k + 1) + 1 from rfl, i_forsyth_Write.l0, if_pos (by omega), show ((0 : Nat) : Int) = 0 from rfl, R]
    simp only [Option.bind_some]
    rw [if_pos (by omega), w64 (by omega) (by omega), i_forsyth_Write.l0, if_neg (by decide)]; rfl
  | succ r ih =>
    intro k l hr hk hl
    obtain ⟨k, rfl⟩ : ∃ m, k = m + 1 := ⟨k - 1, by omega⟩
    rw [i_forsyth_Write.l0, if_pos (by omega), row_is hb hr (by omega)]
    simp only [Option.bind_some]
    rw [if_pos (by omega), w64 (by omega) (by omega), show ((r + 1 : Nat) : Int) - 1 = (r : Int) by omega, ih k _ (by omega) (by omega) (by rw [List.length_append]; show _ + 1 + _ < _; omega), rowsT, List.append_assoc]
    rfl
theorem pw_is {b : List Int} (hb : Men b) {k : Nat} (hk : 20 < k) : i_forsyth_Write.l0 k b [] 7 = some (wrT b 7, 0) := by
  have := pw_l hb 7 k [] (by omega) (by omega) (by simp)
  rw [show ((7 : Nat) : Int) = 7 from rfl] at this
  rw [this, List.nil_append]
  have hs := wr_size hb 7
  have hj := rows_join b 7
  have hlen : (wrT b 7).data.toList.length = (wrT b 7).size := by simp
  unfold i_strings_Join.f
  rw [show ((⟨#[47]⟩ : ByteArray).data.toList) = [47] from rfl, hj, if_pos ⟨by rw [rows_len]; omega, by rw [hlen]; omega⟩]
  simp only [Option.bind_some, Option.some.injEq, Prod.mk.injEq, and_true]
/-- a board of men, said so by both. -/
def rgF (b : List Int) : Nat → Nat → Bool
  | 0, i => true
  | d + 1, i => if -6 ≤ nt b i 0 ∧ nt b i 0 ≤ 6 then rgF b d (i + 1) else false
theorem b8_bd {b : List Int} (h : B8 b) (i : Nat) : -128 ≤ nt b i 0 ∧ nt b i 0 ≤ 127 := h.2 i
theorem right_l {b : List Int} (h : B8 b) : ∀ (d i k : Nat), i + d = 64 → d < k → i_board_Right.l0 k b i = some (rgF b d i) ∧ i_alfilref03_Right.l0 k b i = some (rgF b d i) := by
  intro d
  induction d with
  | zero =>
    intro i k hd hk
    obtain ⟨k, rfl⟩ : ∃ m, k = m + 1 := ⟨k - 1, by omega⟩
    rw [i_board_Right.l0, i_alfilref03_Right.l0, if_neg (by omega), if_neg (by omega)]
    exact ⟨rfl, rfl⟩
  | succ d ih =>
    intro i k hd hk
    obtain ⟨k, rfl⟩ : ∃ m, k = m + 1 := ⟨k - 1, by omega⟩
    have hv := b8_bd h i
    obtain ⟨I1, I2⟩ := ih (i + 1) k (by omega) (by omega)
    rw [show ((i + 1 : Nat) : Int) = (i : Int) + 1 by omega] at I1 I2
    refine ⟨?_, ?_⟩
    · rw [i_board_Right.l0, if_pos (by omega), if_pos (show (0 : Int) ≤ i by omega), Int.toNat_natCast, w64 (x := nt b i 0) (by omega) (by omega), w64 (x := (i : Int) + 1) (by omega) (by omega), rgF, I1]
      by_cases h0 : nt b i 0 = 0
      · rw [if_pos h0, if_pos (by omega)]
      · rw [if_neg h0]
        by_cases h6 : -6 ≤ nt b i 0 ∧ nt b i 0 ≤ 6
        · rw [if_pos h6, if_pos (show manB (nt b i 0) = true by unfold manB; exact decide_eq_true ⟨h0, h6.1, h6.2⟩)]
        · rw [if_neg h6, if_neg (show ¬ manB (nt b i 0) = true by unfold manB; rw [decide_eq_true_eq]; omega)]
    · rw [i_alfilref03_Right.l0, if_pos (by omega), if_pos (show (0 : Int) ≤ i by omega), Int.toNat_natCast, w64 (x := nt b i 0) (by omega) (by omega), w64 (x := (i : Int) + 1) (by omega) (by omega), rgF, I2]
      by_cases h0 : nt b i 0 = 0
      · rw [if_pos h0, if_pos (by omega)]
      · rw [if_neg h0]
        by_cases h6 : -6 ≤ nt b i 0 ∧ nt b i 0 ≤ 6
        · rw [if_pos h6, if_neg (show ¬ kindZ (nt b i 0) = 0 by unfold kindZ; rw [if_neg (by omega)]; split <;> omega)]
        · rw [if_neg h6, if_pos (kindZ_out (by omega))]
theorem rg_men {b : List Int} (hl : b.length = 64) : ∀ (d i : Nat), i + d = 64 → rgF b d i = true → ∀ j, i ≤ j → -6 ≤ nt b j 0 ∧ nt b j 0 ≤ 6 := by
  intro d
  induction d with
  | zero => intro i hd _ j hj; rw [nt_out (by omega)]; omega
  | succ d ih =>
    intro i hd h j hj
    rw [rgF] at h
    split at h
    · rename_i h6
      rcases (show j = i ∨ i + 1 ≤ j by omega) with rfl | h'
      · exact h6
      · exact ih (i + 1) (by omega) h j h'
    · cases h
theorem writes_are {b : List Int} (h : B8 b) {k : Nat} (hk : 200 < k) : (Men b ∧ i_forsyth_Write.f k b = some (wrT b 7, 0) ∧ i_alfilref04_Write.f k b = some (wrT b 7, 0)) ∨ (i_forsyth_Write.f k b = some (⟨#[]⟩, 5) ∧ i_alfilref04_Write.f k b = some (⟨#[]⟩, 5)) := by
  obtain ⟨R1, R2⟩ := right_l h 64 0 k (by omega) (by omega)
  rw [show ((0 : Nat) : Int) = 0 from rfl] at R1 R2
  unfold i_forsyth_Write.f i_alfilref04_Write.f i_board_Right.f i_alfilref03_Right.f
  rw [R1, R2]
  simp only [Option.bind_some]
  cases hr : rgF b 64 0 with
  | true =>
    have hb : Men b := fun j => rg_men h.1 64 0 (by omega) hr j (by omega)
    left
    have := wl0 hb 7 k ⟨#[]⟩ (by omega) (by omega) (by show 0 ≤ _; omega)
    rw [show ((7 : Nat) : Int) = 7 from rfl, nil_ba] at this
    rw [if_pos rfl, if_pos rfl, pw_is hb (by omega), this]
    exact ⟨hb, rfl, rfl⟩
  | false =>
    right
    rw [if_neg (by decide), if_neg (by decide)]
    exact ⟨rfl, rfl⟩
/-! what was written is read -/
theorem btn_app (t m : ByteArray) {i : Nat} (h : i < t.size) : bt (t ++ m) i = bt t i := by
  unfold bt
  rw [ByteArray.data_append, Array.toList_append, List.getD_eq_getElem?_getD, List.getD_eq_getElem?_getD, List.getElem?_append_left (by simpa using h)]
theorem btn_app2 (t m : ByteArray) {i : Nat} (h : t.size ≤ i) : bt (t ++ m) i = bt m (i - t.size) := by
  unfold bt
  rw [ByteArray.data_append, Array.toList_append, List.getD_eq_getElem?_getD, List.getD_eq_getElem?_getD, List.getElem?_append_right (by simpa using h)]
  simp
def At (t : ByteArray) (i : Nat) (u : ByteArray) : Prop := ∀ j, j < u.size → bt t (i + j) = bt u j
theorem At.left {t u v : ByteArray} {i : Nat} (h : At t i (u ++ v)) : At t i u := fun j hj => by
  rw [h j (by rw [sz_app]; omega), btn_app _ _ hj]
theorem At.right {t u v : ByteArray} {i : Nat} (h : At t i (u ++ v)) : At t (i + u.size) v := fun j hj => by
  have := h (u.size + j) (by rw [sz_app]; omega)
  rw [btn_app2 _ _ (by omega), show u.size + j - u.size = j by omega] at this
  rw [Nat.add_assoc, this]
theorem run_one {t : ByteArray} {i : Nat} {c : Int} {s s' : St} (h : runS t i = some s) (hb : bt t i = c) (e : stp c s = some s') : runS t (i + 1) = some s' := by
  show (runS t i).bind (stp (bt t i)) = _
  rw [h, hb]; exact e
theorem bdn {b : List Int} {r f : Nat} (hr : r < 8) (hf : f < 8) : nt (bd b) (8 * (7 - r) + f) 0 = nt b (8 * r + f) 0 := by
  rw [bd_get _ (by omega)]
  congr 1
  unfold ix; omega
theorem let_one {m : Int} (h : -6 ≤ m ∧ m ≤ 6) (h0 : m ≠ 0) : (letterB m).size = 1 ∧ bt (letterB m) 0 ≠ 47 ∧ ¬ (49 ≤ bt (letterB m) 0 ∧ bt (letterB m) 0 ≤ 56) ∧ manb (bt (letterB m) 0) = m := by
  have D : ∀ k : Fin 13, ((k.val : Int) - 6) ≠ 0 → (letterB ((k.val : Int) - 6)).size = 1 ∧ bt (letterB ((k.val : Int) - 6)) 0 ≠ 47 ∧ ¬ (49 ≤ bt (letterB ((k.val : Int) - 6)) 0 ∧ bt (letterB ((k.val : Int) - 6)) 0 ≤ 56) ∧ manb (bt (letterB ((k.val : Int) - 6)) 0) = ((k.val : Int) - 6) := by decide +kernel
  have := D ⟨(m + 6).toNat, by omega⟩
  dsimp only at this
  rw [show ((m + 6).toNat : Int) - 6 = m by omega] at this
  exact this h0
theorem gap_one {g : Nat} (h0 : 0 < g) (h : g ≤ 8) : (gapT g).size = 1 ∧ bt (gapT g) 0 = 48 + (g : Int) := by
  have e : gapT g = ⟨#[UInt8.ofNat (48 + g)]⟩ := by unfold gapT; rw [if_pos h0]; exact gap_enc ⟨g, by omega⟩ h0
  rw [e]
  refine ⟨rfl, ?_⟩
  show ((UInt8.ofNat (48 + g)).toNat : Int) = _
  rw [UInt8.toNat_ofNat']; omega
theorem take_zero {l : List Int} : ∀ (g n : Nat), n + g ≤ l.length → (∀ j, n ≤ j → j < n + g → nt l j 0 = 0) → l.take n ++ List.replicate g 0 = l.take (n + g) := by
  intro g
  induction g with
  | zero => intro n _ _; simp
  | succ g ih =>
    intro n hn hz
    rw [List.replicate_succ, ← List.singleton_append, ← List.append_assoc, show [(0 : Int)] = [nt l n 0] by rw [hz n (by omega) (by omega)], take_next (by omega), ih (n + 1) (by omega) (fun j h1 h2 => hz j (by omega) (by omega)), show n + 1 + g = n + (g + 1) by omega]
/-- the reader behind the rank's file f. -/
def stF (b : List Int) (r f : Nat) : St := ((bd b).take (8 * (7 - r) + f), ((7 - r : Nat) : Int), (f : Int))
theorem run_gap {b : List Int} {r : Nat} (hr : r < 8) {t : ByteArray} {i f g : Nat} (hf : f ≤ 8) (hg : g ≤ f) (hz : ∀ j, f - g ≤ j → j < f → nt b (8 * r + j) 0 = 0) (ha : At t i (gapT g)) (h : runS t i = some (stF b r (f - g))) : runS t (i + (gapT g).size) = some (stF b r f) := by
  by_cases h0 : 0 < g
  · obtain ⟨g1, g2⟩ := gap_one h0 (by omega)
    have hb := ha 0 (by omega)
    rw [Nat.add_zero, g2] at hb
    rw [g1]
    refine run_one h hb ?_
    unfold stp stF
    simp only
    rw [if_neg (by omega), if_pos (by omega), if_neg (by omega), show (48 + (g : Int) - 48).toNat = g by omega, take_zero g _ (by rw [bd_len]; omega) (fun j h1 h2 => by
      have := hz (j - 8 * (7 - r)) (by omega) (by omega)
      rw [← bdn hr (by omega)] at this
      rwa [show 8 * (7 - r) + (j - 8 * (7 - r)) = j by omega] at this), show 8 * (7 - r) + (f - g) + g = 8 * (7 - r) + f by omega, show (((f - g : Nat)) : Int) + (48 + (g : Int) - 48) = f by omega]
  · obtain rfl : g = 0 := by omega
    show runS t (i + 0) = _
    rw [Nat.add_zero, h, Nat.sub_zero]
theorem run_row {b : List Int} (hb : Men b) {r : Nat} (hr : r < 8) {t : ByteArray} : ∀ (d f g i : Nat), f + d = 8 → g ≤ f → (∀ j, f - g ≤ j → j < f → nt b (8 * r + j) 0 = 0) → At t i (rowL b r d f g) → runS t i = some (stF b r (f - g)) → runS t (i + (rowL b r d f g).size) = some (stF b r 8) := by
  intro d
  induction d with
  | zero =>
    intro f g i hd hg hz ha h
    obtain rfl : f = 8 := by omega
    exact run_gap hr (by omega) hg hz ha h
  | succ d ih =>
    intro f g i hd hg hz ha h
    rw [rowL] at ha ⊢
    by_cases h0 : nt b (8 * r + f) 0 = 0
    · rw [if_pos h0] at ha ⊢
      refine ih (f + 1) (g + 1) i (by omega) (by omega) (fun j h1 h2 => ?_) ha (by rw [show f + 1 - (g + 1) = f - g by omega]; exact h)
      rcases (show j < f ∨ j = f by omega) with h' | rfl
      · exact hz j (by omega) h'
      · exact h0
    · rw [if_neg h0] at ha ⊢
      have s1 := run_gap hr (by omega) hg hz ha.left h
      obtain ⟨l1, l2, l3, l4⟩ := let_one (hb (8 * r + f)) h0
      have a2 := ha.right.left
      have a3 := ha.right.right
      have hbt := a2 0 (by omega)
      rw [Nat.add_zero] at hbt
      have s2 : runS t (i + (gapT g).size + 1) = some (stF b r (f + 1)) := by
        refine run_one s1 hbt ?_
        unfold stp stF
        simp only
        rw [if_neg l2, if_neg l3, l4, if_neg h0, if_neg (by omega), ← bdn hr (by omega), take_next (by rw [bd_len]; omega)]
        rfl
      rw [l1] at a3
      have := ih (f + 1) 0 _ (by omega) (by omega) (fun j h1 h2 => by omega) a3 (by rw [Nat.sub_zero]; exact s2)
      rw [sz_app, sz_app, l1, ← this]
      congr 1; omega
theorem run_wr {b : List Int} (hb : Men b) {t : ByteArray} : ∀ (r i : Nat), r < 8 → At t i (wrT b r) → runS t i = some (stF b r 0) → runS t (i + (wrT b r).size) = some (stF b 0 8) := by
  intro r
  induction r with
  | zero => intro i hr ha h; exact run_row hb hr 8 0 0 i (by omega) (by omega) (fun j h1 h2 => by omega) ha h
  | succ r ih =>
    intro i hr ha h
    rw [wrT] at ha ⊢
    have s1 := run_row hb hr 8 0 0 i (by omega) (by omega) (fun j h1 h2 => by omega) ha.left h
    have a2 := ha.right.left
    have a3 := ha.right.right
    have hbt := a2 0 (by show 0 < 1; omega)
    rw [Nat.add_zero, show bt (⟨#[47]⟩ : ByteArray) 0 = 47 from rfl] at hbt
    have s2 : runS t (i + (rowT b (r + 1)).size + 1) = some (stF b r 0) := by
      refine run_one s1 hbt ?_
      unfold stp stF
      simp only
      rw [if_pos trivial, if_pos (by omega), if_neg (by omega), show 8 * (7 - (r + 1)) + 8 = 8 * (7 - r) + 0 by omega, show ((7 - (r + 1) : Nat) : Int) + 1 = ((7 - r : Nat) : Int) by omega]
      rfl
    have := ih _ (by omega) a3 s2
    rw [sz_app, sz_app, ← this]
    congr 1
    show i + ((rowT b (r + 1)).size + (1 + (wrT b r).size)) = i + (rowT b (r + 1)).size + 1 + (wrT b r).size
    omega
theorem rdF_some (t : ByteArray) : ∀ (d i : Nat) (s : St), runS t (i + d) = some s → rdF t d i = if s.1.length = 64 then (bd s.1, ((i + d : Nat) : Int), 0) else (zL, ((i + d : Nat) : Int), 1) := by
  intro d
  induction d with
  | zero => intro i s h; rw [Nat.add_zero] at h; simp only [rdF, h, Nat.add_zero]
  | succ d ih =>
    intro i s h
    have h' : runS t ((i + 1) + d) = some s := by rw [show i + 1 + d = i + (d + 1) by omega]; exact h
    cases hx : runS t (i + 1) with
    | none => have := run_none t hx d; rw [this] at h'; cases h'
    | some s1 =>
      simp only [rdF, hx]
      rw [ih (i + 1) s h', show i + 1 + d = i + (d + 1) by omega]
theorem bd_bd {b : List Int} (hl : b.length = 64) : bd (bd b) = b := by
  apply ext64 (bd_len _) hl
  intro s hs
  rw [bd_get _ hs, bd_get _ ix_lt, ix_ix hs]
theorem read_wr {b : List Int} (hl : b.length = 64) (hb : Men b) : rdZ (wrT b 7) = (b, ((wrT b 7).size : Int), 0) := by
  have h0 : runS (wrT b 7) 0 = some (stF b 7 0) := by
    show some (([] : List Int), (0 : Int), (0 : Int)) = _
    unfold stF; simp
  have h := run_wr hb (t := wrT b 7) 7 0 (by omega) (fun j hj => by rw [Nat.zero_add]) h0
  unfold rdZ
  rw [rdF_some _ _ 0 _ h]
  have e : (stF b 0 8).1 = bd b := by show (bd b).take 64 = bd b; exact List.take_of_length_le (by rw [bd_len]; exact Nat.le_refl _)
  rw [e, if_pos (bd_len _), bd_bd hl, Nat.zero_add]
theorem read_empty : rdZ ⟨#[]⟩ = (zL, 0, 1) := by decide +kernel
theorem writes_is {b : List Int} (h : B8 b) : i_alfillaw04_ForsythWrites.f 10000 b = some true := by
  unfold i_alfillaw04_ForsythWrites.f
  rw [fwakes_is (by decide)]
  simp only [Option.bind_some, if_true]
  rcases writes_are h (k := 10000) (by omega) with ⟨hb, e1, e2⟩ | ⟨e1, e2⟩
  · have hs := wr_size hb 7
    rw [e1, e2]
    simp only [Option.bind_some, if_true]
    rw [read_is _ (by omega) (by omega), read_wr h.1 hb]
    simp
  · rw [e1, e2]
    simp only [Option.bind_some, if_true]
    rw [read_is _ (by decide) (by decide)]
    simp
theorem walk_ForsythWrites (b : List Int) (h : B8 b) (w : World) : Calls Try.prog 9 #[.agg (bv b)] w fun e w' => e = .returned (.bool true) ∧ Below w.heap.size w w' :=
  i_alfillaw04_ForsythWrites.calls 10000 b h.1 true w (writes_is h)
end Go.Proofs.Ytpgdcpkggmkooaa
