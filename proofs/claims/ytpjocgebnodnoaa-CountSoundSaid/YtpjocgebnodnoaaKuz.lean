import Derived.Test.YtpjocgebnodnoaaKqz
import Derived.Test.YtpjocgebnodnoaaDyz
namespace Go.Proofs.Ytpjocgebnodnoaa
open Go.RowKit
set_option linter.unusedVariables false
set_option linter.unusedSimpArgs false
set_option maxRecDepth 100000
theorem first_pos : PosI firstL 0 15 (-1) := by
  have f := first_facts
  have hm : ∀ s : Int, (s = 0 ∨ s = 1) → ∀ ps : List (Int × Nat), (ps.map (·.2)).Nodup → (∀ p ∈ ps, okP s p) → ps.map (·.1) = whereZ firstL (sg s 1) → cost ps = 0 → (manyZ firstL 0 (1 - s) : Int) ≤ 16 → MI firstL s := by
    intro s hs ps h1 h2 h3 h4 h5
    refine ⟨ps, ⟨h1, h2⟩, fun i => ?_, ?_, by omega⟩
    · rw [h3]; exact where_mem
    · rw [h3]; exact where_nodup ..
  refine { b8 := first_8, wr := f.1, tt := .inl rfl, cc := by decide, ee := by decide, bk := ?_, ck := by decide +kernel, pr := ?_, mt := ?_ }
  · intro j hj _
    match j, hj with
    | 0, _ => decide
    | 1, _ => decide
    | 2, _ => decide
    | 3, _ => decide
  · intro s hs
    rcases hs with rfl | rfl
    · have := f.2.1; omega
    · have := f.2.2.1; omega
  · intro s hs
    rcases hs with rfl | rfl
    · exact hm 0 (.inl rfl) _ home0_fit.1 home0_fit.2.1 home0_fit.2.2.1 home0_fit.2.2.2 (by rw [show (1 : Int) - 0 = 1 by decide, f.2.2.2.2]; decide)
    · exact hm 1 (.inr rfl) _ home1_fit.1 home1_fit.2.1 home1_fit.2.2.1 home1_fit.2.2.2 (by rw [show (1 : Int) - 1 = 0 by decide, f.2.2.2.1]; decide)
theorem wakes24 : i_alfillaw24_wakes.f 1000000 = some true := by
  have fi : i_board_First.f 1000000 = some firstL := by decide +kernel
  obtain ⟨u0, u1, _, hl, _⟩ := two_of nineL nine_8
  have hp := first_pos
  have n := nine_facts
  have w1 : whyZ nineL u0 u1 = 2 := by unfold whyZ; rw [if_neg (fun hh => hh n.1), if_pos (by rw [n.2]; omega)]
  have q1 := qWhy nine_8 hl (k := 1000000) (by omega)
  have q2 := illegal_no hp.b8 hp.wr (hp.pr 0 (.inl rfl)) (hp.pr 1 (.inr rfl)) (hp.mt 0 (.inl rfl)) (hp.mt 1 (.inr rfl)) (k := 1000000) (by omega)
  rw [w1] at q1
  rw [i_alfillaw24_wakes.f, fi, Option.bind_some, show (firstL.set 24 1).set 1 0 = nineL from rfl, q1, Option.bind_some, q2]
  rfl
theorem u16_bd (x : Int) : 0 ≤ wrap64 (IntKind.u16.wrap x) ∧ wrap64 (IntKind.u16.wrap x) ≤ 65535 := by
  have : 0 ≤ IntKind.u16.wrap x ∧ IntKind.u16.wrap x ≤ 65535 := by simp [IntKind.wrap, IntKind.bits, IntKind.signed]; omega
  rw [q64 (by omega) (by omega)]; exact this
theorem sound_in {a : List Int} {n : Nat} {b : List Int} {t c e : Int} (hi : PosI b t c e) {y : Int × Int × Int} (hy : Legal b t c e y) {k K : Nat} (hk : K ≤ k) (h5 : 6000 < k)
    (next : ∀ k, K ≤ k → ∀ y, Legal b t c e y → i_alfillaw24_CountSound.l0 k a (wrap64 ((n : Int) + 1)) (nextB b t c e y) (1 - t) (castJ c y.1 y.2.1 4) (epZ b y.1 y.2.1) = some true) :
    ((i_alfilref09_Behind.f k b t c e y.1 y.2.1 y.2.2).bind fun q => ((i_count_Illegal.f k q.1).bind fun i => (if i = true then (some false) else (i_alfillaw24_CountSound.l0 k a (wrap64 ((n : Int) + 1)) q.1 q.2.1 q.2.2.1 q.2.2.2)))) = some true := by
  have hp := legal_pos hi hy
  rw [rBehind hi.tt hy.1, Option.bind_some]
  have q2 := illegal_no hp.b8 hp.wr (hp.pr 0 (.inl rfl)) (hp.pr 1 (.inr rfl)) (hp.mt 0 (.inl rfl)) (hp.mt 1 (.inr rfl)) (k := k) (by omega)
  simp only
  rw [q2, Option.bind_some, if_neg (by decide)]
  exact next k hk y hy
theorem sound_l1 {a : List Int} {n : Nat} {b : List Int} {t c e : Int} (hi : PosI b t c e) {m : List (Int × Int × Int)} (hm : ∀ y ∈ m, Legal b t c e y) (h0 : m.length ≠ 0) (hl : m.length ≤ 24576) {K : Nat} (hK : 6000 < K)
    (next : ∀ k, K ≤ k → ∀ y, Legal b t c e y → i_alfillaw24_CountSound.l0 k a (wrap64 ((n : Int) + 1)) (nextB b t c e y) (1 - t) (castJ c y.1 y.2.1 4) (epZ b y.1 y.2.1) = some true) :
    ∀ (d i k : Nat), i + d = m.length → d + K + 1 ≤ k → i_alfillaw24_CountSound.l1 k a (n : Int) b t c e m (i : Int) = some true := by
  have hu := u16_bd (Int.tdiv (nt a ((n : Int)).toNat 0) 2)
  have hx : ∀ z : Int, 0 ≤ z → 0 ≤ Int.tmod z (m.length : Int) ∧ Int.tmod z (m.length : Int) < (m.length : Int) := fun z hz => ⟨Int.tmod_nonneg _ hz, Int.tmod_lt_of_pos _ (by omega)⟩
  have hg : ∀ z : Int, 0 ≤ z → Legal b t c e (nt m (Int.tmod z (m.length : Int)).toNat (0, 0, 0)) := fun z hz => by
    have := hx z hz
    exact hm _ (nt_mem (by omega))
  intro d
  induction d with
  | zero =>
    intro i k hid hk
    obtain ⟨k, rfl⟩ : ∃ q, k = q + 1 := ⟨k - 1, by omega⟩
    rw [i_alfillaw24_CountSound.l1, if_neg (by omega)]
    have h1 := hg _ hu.1
    exact sound_in hi h1 (by omega) (by omega) next
  | succ d ih =>
    intro i k hid hk
    obtain ⟨k, rfl⟩ : ∃ q, k = q + 1 := ⟨k - 1, by omega⟩
    have ih1 := ih (i + 1) k (by omega) (by omega)
    clear ih
    have es : wrap64 ((i : Int) + 1) = ((i + 1 : Nat) : Int) := by rw [q64 (by omega) (by omega)]; rfl
    rw [i_alfillaw24_CountSound.l1, if_pos (by omega), if_neg (by omega), es, ih1]
    generalize wrap64 (IntKind.u16.wrap (Int.tdiv (nt a ((n : Int)).toNat 0) 2)) = h at *
    have ez : wrap64 (h + (i : Int)) = h + (i : Int) := q64 (by omega) (by omega)
    have h2 := hx (h + (i : Int)) (by omega)
    have h3 := hg (h + (i : Int)) (by omega)
    rw [ez, if_pos h2.1, if_pos h2.2]
    generalize nt m (Int.tmod (h + (i : Int)) (m.length : Int)).toNat (0, 0, 0) = y at *
    split
    · rw [rTakes b c e _ hi.tt h3.1.1 h3.1.2.1 (by omega), Option.bind_some]
      split
      · exact sound_in hi h3 (by omega) (by omega) next
      · rfl
    · rfl
theorem sound_l0 (a : List Int) (ha : a.length ≤ 25) : ∀ (d n k : Nat) (b : List Int) (t c e : Int), n + d = a.length → d * 30000 + 30000 < k → PosI b t c e → i_alfillaw24_CountSound.l0 k a (n : Int) b t c e = some true := by
  intro d
  induction d with
  | zero =>
    intro n k b t c e hn hk hi
    obtain ⟨k, rfl⟩ : ∃ q, k = q + 1 := ⟨k - 1, by omega⟩
    rw [i_alfillaw24_CountSound.l0, if_neg (by omega)]
  | succ d ih =>
    intro n k b t c e hn hk hi
    obtain ⟨k, rfl⟩ : ∃ q, k = q + 1 := ⟨k - 1, by omega⟩
    obtain ⟨m, h1, h2, h3⟩ := rMoves hi (k := k) (by omega)
    have es : wrap64 ((n : Int) + 1) = ((n + 1 : Nat) : Int) := by rw [q64 (by omega) (by omega)]; rfl
    have hu := u16_bd (Int.tdiv (nt a ((n : Int)).toNat 0) 2)
    rw [i_alfillaw24_CountSound.l0, if_pos (by omega), if_pos (by omega), h1, Option.bind_some]
    by_cases hz : (m.length : Int) = 0
    · rw [if_pos hz]
    · rw [if_neg hz, if_pos (Int.tmod_nonneg _ hu.1), if_pos (Int.tmod_lt_of_pos _ (by omega))]
      refine sound_l1 hi h3 (by omega) h2 (K := d * 30000 + 30001) (by omega) (fun k hk y hy => ?_) m.length 0 k (Nat.zero_add _) (by omega)
      rw [es]
      exact ih (n + 1) k _ _ _ _ (by omega) (by omega) (legal_pos hi hy)
theorem sound_is (a : List Int) : i_alfillaw24_CountSound.f 1000000 a = some true := by
  have fi : i_pos_First.f 1000000 = some (firstL, 0, 15, -1) := by
    have : i_board_First.f 1000000 = some firstL := by decide +kernel
    rw [i_pos_First.f, i_pos_none.f, Option.bind_some, this, Option.bind_some]
  rw [i_alfillaw24_CountSound.f, wakes24, Option.bind_some, if_pos rfl]
  by_cases h : (a.length : Int) > 25
  · rw [if_pos h]
  · rw [if_neg h, fi, Option.bind_some]
    exact sound_l0 a (by omega) a.length 0 1000000 firstL 0 15 (-1) (Nat.zero_add _) (by omega) first_pos
theorem walk_CountSound (v : Value) (l : List Int) (w : World) (h : Sl w v (l.map (Value.int .u16))) : Calls Try.prog 12 #[v] w fun e w' => e = .returned (.bool true) ∧ Below w.heap.size w w' :=
  (i_alfillaw24_CountSound.calls 1000000 v l true w h (sound_is l)).mono fun e w' hh => ⟨hh.1, hh.2⟩
end Go.Proofs.Ytpjocgebnodnoaa
