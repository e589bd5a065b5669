import Derived.Test.YtpjocgebnodnoaaKjz
namespace Go.Proofs.Ytpjocgebnodnoaa
open Go.RowKit
set_option linter.unusedVariables false
set_option linter.unusedSimpArgs false
set_option maxRecDepth 100000
def newZ (b : List Int) (t f p : Int) : Int := if 0 < p then p - 2 * t * p else nt b f.toNat 0
def ncB (b : List Int) (f o tk x : Int) : List Int := ((b1Z b tk).set o.toNat x).set f.toNat 0
theorem nc_shape (b : List Int) (t f o p tk : Int) : behB b t f o p tk 0 = ncB b f o tk (newZ b t f p) := by
  unfold behB b5Z ncB b3Z newZ
  rw [if_neg (by decide), if_neg (by decide)]
  split
  · rw [List.set_set]
  · rfl
structure Nc (b : List Int) (t f o tk x : Int) : Prop where
  hb : b.length = 64
  tt : t = 0 ∨ t = 1
  f0 : 0 ≤ f ∧ f < 64
  o0 : 0 ≤ o ∧ o < 64
  fo : f ≠ o
  sf : sideZ (nt b f.toNat 0) = t
  sx : sideZ x = t
  xb : -6 ≤ x ∧ x ≤ 6
  tk_ : tk = -1 ∨ (0 ≤ tk ∧ tk < 64 ∧ tk ≠ f ∧ sideZ (nt b tk.toNat 0) = 1 - t ∧ nt b tk.toNat 0 ≠ sg (1 - t) 6)
  emp : tk = o ∨ nt b o.toNat 0 = 0
theorem b1_len {b : List Int} (h : b.length = 64) (tk : Int) : (b1Z b tk).length = 64 := by unfold b1Z; split <;> simp [h]
section
variable {b : List Int} {t f o tk x : Int}
theorem Nc.b1o (h : Nc b t f o tk x) : nt (b1Z b tk) o.toNat 0 = 0 := by
  have h0 := h.o0
  have hb := h.hb
  unfold b1Z
  rcases h.emp with e | e
  · subst e; rw [if_pos h0.1]; exact ntA_eq (by omega)
  · split
    · by_cases e2 : tk.toNat = o.toNat
      · rw [e2]; exact ntA_eq (by omega)
      · rw [ntA_ne e2]; exact e
    · exact e
theorem Nc.b1f (h : Nc b t f o tk x) : nt (b1Z b tk) f.toNat 0 = nt b f.toNat 0 := by
  have h0 := h.f0
  unfold b1Z
  rcases h.tk_ with e | ⟨e1, e2, e3, _⟩
  · rw [if_neg (by omega)]
  · rw [if_pos e1, ntA_ne (by omega)]
theorem Nc.at_ (h : Nc b t f o tk x) {i : Nat} (hi : i < 64) : nt (ncB b f o tk x) i 0 = if i = f.toNat then 0 else if i = o.toNat then x else if 0 ≤ tk ∧ i = tk.toNat then 0 else nt b i 0 := by
  have hl := b1_len h.hb tk
  unfold ncB
  by_cases e1 : i = f.toNat
  · rw [if_pos e1, e1]; exact ntA_eq (by rw [List.length_set]; omega)
  · rw [if_neg e1, ntA_ne (by omega)]
    by_cases e2 : i = o.toNat
    · rw [if_pos e2, e2]; exact ntA_eq (by omega)
    · rw [if_neg e2, ntA_ne (by omega)]
      unfold b1Z
      by_cases e3 : 0 ≤ tk
      · rw [if_pos e3]
        by_cases e4 : i = tk.toNat
        · rw [if_pos ⟨e3, e4⟩, e4]; exact ntA_eq (by have := h.hb; omega)
        · rw [if_neg (fun hh => e4 hh.2), ntA_ne (by omega)]
      · rw [if_neg e3, if_neg (fun hh => e3 hh.1)]
theorem Nc.cnt (h : Nc b t f o tk x) {P : Nat → Int → Bool} (hP : ∀ i, P i 0 = false) : cntP P (ncB b f o tk x) + ib (P f.toNat (nt b f.toNat 0)) + (if 0 ≤ tk then ib (P tk.toNat (nt b tk.toNat 0)) else 0) = cntP P b + ib (P o.toNat x) := by
  have hl := b1_len h.hb tk
  have ho := h.o0
  have hf := h.f0
  have hfo := h.fo
  have c1 := cnt_set (P := P) (b := (b1Z b tk).set o.toNat x) (i := f.toNat) (v := 0) (by rw [List.length_set]; exact hl) (by omega)
  rw [ntA_ne (by omega), h.b1f, ib_f (hP _)] at c1
  have c2 := cnt_set (P := P) (b := b1Z b tk) (i := o.toNat) (v := x) hl (by omega)
  rw [h.b1o, ib_f (hP _)] at c2
  have c3 : cntP P (b1Z b tk) + (if 0 ≤ tk then ib (P tk.toNat (nt b tk.toNat 0)) else 0) = cntP P b := by
    unfold b1Z
    rcases h.tk_ with e | ⟨e1, e2, _⟩
    · rw [if_neg (by omega), if_neg (by omega)]; rfl
    · rw [if_pos e1, if_pos e1]
      have c4 := cnt_set (P := P) (b := b) (i := tk.toNat) (v := 0) h.hb (by omega)
      rw [ib_f (hP _)] at c4
      exact c4
  unfold ncB
  omega
theorem Nc.own (h : Nc b t f o tk x) {P : Nat → Int → Bool} (hP : ∀ i, P i 0 = false) (hs : ∀ i v, P i v = true → sideZ v = t) : cntP P (ncB b f o tk x) + ib (P f.toNat (nt b f.toNat 0)) = cntP P b + ib (P o.toNat x) := by
  have c := h.cnt hP
  rcases h.tk_ with e | ⟨e1, e2, e3, e4, _⟩
  · rw [if_neg (by omega)] at c; exact c
  · rw [if_pos e1] at c
    have : P tk.toNat (nt b tk.toNat 0) = false := by
      cases hh : P tk.toNat (nt b tk.toNat 0) with
      | false => rfl
      | true => have := hs _ _ hh; have := h.tt; omega
    rw [ib_f this] at c; exact c
theorem Nc.opp (h : Nc b t f o tk x) {P : Nat → Int → Bool} (hP : ∀ i, P i 0 = false) (hs : ∀ i v, P i v = true → sideZ v = 1 - t) : cntP P (ncB b f o tk x) + (if 0 ≤ tk then ib (P tk.toNat (nt b tk.toNat 0)) else 0) = cntP P b := by
  have c := h.cnt hP
  have no : ∀ i v, sideZ v = t → P i v = false := fun i v hv => by
    cases hh : P i v with
    | false => rfl
    | true => have := hs _ _ hh; have := h.tt; omega
  rw [ib_f (no _ _ h.sf), ib_f (no _ _ h.sx)] at c; exact c
theorem Nc.opp_le (h : Nc b t f o tk x) {P : Nat → Int → Bool} (hP : ∀ i, P i 0 = false) (hs : ∀ i v, P i v = true → sideZ v = 1 - t) : cntP P (ncB b f o tk x) ≤ cntP P b := by
  have := h.opp hP hs; omega
theorem Nc.opp_many (h : Nc b t f o tk x) : (manyZ (ncB b f o tk x) 0 (1 - t) : Int) + (if 0 ≤ tk then 1 else 0) = manyZ b 0 (1 - t) := by
  have c := h.opp (P := fun _ v => inB v 0 (1 - t)) (fun _ => inB_0 _ _) (fun _ _ hv => inB_side hv)
  rw [many_cnt, many_cnt]
  rcases h.tk_ with e | ⟨e1, e2, e3, e4, _⟩
  · rw [if_neg (by omega)] at c ⊢; omega
  · rw [if_pos e1] at c ⊢
    have hm : inB (nt b tk.toNat 0) 0 (1 - t) = true := by
      have hsd : sideZ (nt b tk.toNat 0) ≠ -1 := by have := h.tt; omega
      have hman : manB (nt b tk.toNat 0) = true := by
        unfold sideZ at hsd
        unfold manB
        by_cases hz : nt b tk.toNat 0 = 0 ∨ nt b tk.toNat 0 < -6 ∨ 6 < nt b tk.toNat 0
        · rw [if_pos hz] at hsd; exact absurd rfl hsd
        · exact decide_eq_true (by omega)
      unfold inB; rw [hman, e4]; simp
    rw [ib_t hm] at c; omega
theorem Nc.sides (h : Nc b t f o tk x) {s : Int} (hs : s = 0 ∨ s = 1) : s = t ∨ s = 1 - t := by have := h.tt; omega
theorem Nc.t1 (h : Nc b t f o tk x) : 1 - t = 0 ∨ 1 - t = 1 := by have := h.tt; omega
theorem Nc.cens_opp (h : Nc b t f o tk x) : Cens b (ncB b f o tk x) (1 - t) := by
  have m : ∀ k, manyZ (ncB b f o tk x) k (1 - t) ≤ manyZ b k (1 - t) := fun k => by
    rw [many_cnt, many_cnt]; exact h.opp_le (fun _ => inB_0 _ _) (fun _ _ hv => inB_side hv)
  have bb : ∀ d, bcnt (ncB b f o tk x) (1 - t) d ≤ bcnt b (1 - t) d := fun d => by
    rw [bcnt_cnt, bcnt_cnt]; exact h.opp_le (fun i => bis_0 h.t1 d i) (fun _ _ hv => bis_side h.t1 hv)
  exact ⟨m 2, m 4, m 5, bb true, bb false⟩
theorem Nc.pr_opp (h : Nc b t f o tk x) (hp : (manyZ b 1 (1 - t) : Int) + promZ b (1 - t) ≤ 8) : (manyZ (ncB b f o tk x) 1 (1 - t) : Int) + promZ (ncB b f o tk x) (1 - t) ≤ 8 := by
  have h1 := prom_mono h.cens_opp
  have h2 : manyZ (ncB b f o tk x) 1 (1 - t) ≤ manyZ b 1 (1 - t) := by rw [many_cnt, many_cnt]; exact h.opp_le (fun _ => inB_0 _ _) (fun _ _ hv => inB_side hv)
  omega
theorem Nc.own_many (h : Nc b t f o tk x) (k : Int) : manyZ (ncB b f o tk x) k t + ib (inB (nt b f.toNat 0) k t) = manyZ b k t + ib (inB x k t) := by
  rw [many_cnt, many_cnt]; exact h.own (P := fun _ v => inB v k t) (fun _ => inB_0 _ _) (fun _ _ hv => inB_side hv)
theorem man_of {y s : Int} (hs : s = 0 ∨ s = 1) (h : sideZ y = s) : manB y = true := by
  unfold sideZ at h
  unfold manB
  by_cases hz : y = 0 ∨ y < -6 ∨ 6 < y
  · rw [if_pos hz] at h; omega
  · exact decide_eq_true (by omega)
theorem in_0 {y s : Int} (hs : s = 0 ∨ s = 1) (h : sideZ y = s) : inB y 0 s = true := by unfold inB; rw [man_of hs h, h]; simp
theorem Nc.own_0 (h : Nc b t f o tk x) : manyZ (ncB b f o tk x) 0 t = manyZ b 0 t := by
  have := h.own_many 0
  rw [ib_t (in_0 h.tt h.sf), ib_t (in_0 h.tt h.sx)] at this; omega
theorem opp_man {y s : Int} (hs : s = 0 ∨ s = 1) (h : sideZ y = s) (k : Fin 7) (hk : k.val ≠ 0) : y ≠ sg (1 - s) (k.val : Int) := by
  intro e
  have := sg_side (s := 1 - s) (by omega) k hk
  rw [← e] at this; omega
theorem zero_man {s : Int} (hs : s = 0 ∨ s = 1) : (0 : Int) ≠ sg s 1 := by rcases hs with rfl | rfl <;> decide
theorem Nc.mt_opp (h : Nc b t f o tk x) (hm : MI b (1 - t)) : MI (ncB b f o tk x) (1 - t) := by
  have hmm : manyZ (ncB b f o tk x) 0 (1 - (1 - t)) ≤ manyZ b 0 (1 - (1 - t)) := by rw [show 1 - (1 - t) = t by omega, h.own_0]; exact Nat.le_refl _
  have z := zero_man h.t1
  have nf : nt b f.toNat 0 ≠ sg (1 - t) 1 := opp_man h.tt h.sf (1 : Fin 7) (by decide)
  have nx : x ≠ sg (1 - t) 1 := opp_man h.tt h.sx (1 : Fin 7) (by decide)
  have hf := h.f0
  have ho := h.o0
  refine mi_drop (x := if 0 ≤ tk then tk else -1) hm (fun i i0 i1 => ?_) hmm
  rw [h.at_ (i := i.toNat) (by omega)]
  by_cases e1 : i.toNat = f.toNat
  · rw [if_pos e1, e1]; exact ⟨fun hh => absurd hh z, fun hh => absurd hh.1 nf⟩
  · rw [if_neg e1]
    by_cases e2 : i.toNat = o.toNat
    · rw [if_pos e2]
      refine ⟨fun hh => absurd hh nx, fun hh => ?_⟩
      rcases h.emp with e3 | e3
      · exact absurd (by rw [if_pos (by omega)]; omega) hh.2
      · rw [e2, e3] at hh; exact absurd hh.1 z
    · rw [if_neg e2]
      by_cases e3 : 0 ≤ tk
      · rw [if_pos e3]
        by_cases e4 : i.toNat = tk.toNat
        · rw [if_pos ⟨e3, e4⟩]; exact ⟨fun hh => absurd hh z, fun hh => absurd (by omega) hh.2⟩
        · rw [if_neg (fun hh => e4 hh.2)]; exact ⟨fun hh => ⟨hh, by omega⟩, fun hh => hh.1⟩
      · rw [if_neg e3, if_neg (fun hh => e3 hh.1)]; exact ⟨fun hh => ⟨hh, by omega⟩, fun hh => hh.1⟩
theorem Nc.pawns (h : Nc b t f o tk x) {i : Int} (i0 : 0 ≤ i) (i1 : i < 64) : nt (ncB b f o tk x) i.toNat 0 = sg t 1 ↔ (nt b i.toNat 0 = sg t 1 ∧ i ≠ f) ∨ (i = o ∧ x = sg t 1) := by
  have z := zero_man h.tt
  have hf := h.f0
  have ho := h.o0
  have hfo := h.fo
  have nok : nt b o.toNat 0 ≠ sg t 1 := by
    rcases h.emp with e | e
    · rcases h.tk_ with e2 | ⟨_, _, _, e2, _⟩
      · omega
      · rw [← e]; have := opp_man h.t1 e2 (1 : Fin 7) (by decide); rw [show 1 - (1 - t) = t by omega] at this; exact this
    · rw [e]; exact z
  rw [h.at_ (i := i.toNat) (by omega)]
  by_cases e1 : i.toNat = f.toNat
  · rw [if_pos e1]
    exact ⟨fun hh => absurd hh z, fun hh => by rcases hh with hh | hh; exact absurd (by omega) hh.2; omega⟩
  · rw [if_neg e1]
    by_cases e2 : i.toNat = o.toNat
    · rw [if_pos e2]
      exact ⟨fun hh => .inr ⟨by omega, hh⟩, fun hh => by rcases hh with hh | hh; rw [e2] at hh; exact absurd hh.1 nok; exact hh.2⟩
    · rw [if_neg e2]
      by_cases e3 : 0 ≤ tk ∧ i.toNat = tk.toNat
      · rw [if_pos e3]
        refine ⟨fun hh => absurd hh z, fun hh => ?_⟩
        rcases hh with hh | hh
        · rcases h.tk_ with e4 | ⟨_, _, _, e4, _⟩
          · omega
          · have := opp_man h.t1 e4 (1 : Fin 7) (by decide); rw [show 1 - (1 - t) = t by omega, ← e3.2] at this; exact absurd hh.1 this
        · omega
      · rw [if_neg e3]
        exact ⟨fun hh => .inl ⟨hh, by omega⟩, fun hh => by rcases hh with hh | hh; exact hh.1; omega⟩
end
end Go.Proofs.Ytpjocgebnodnoaa
