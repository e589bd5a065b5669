import Derived.Test.YtpjocgebnodnoaaCtz
namespace Go.Proofs.Ytpjocgebnodnoaa
open Go.RowKit
set_option linter.unusedVariables false
set_option linter.unusedSimpArgs false
def goneZ (side s : Int) : Int := if side = 0 then s / 8 - 1 else 6 - s / 8
def co1 (p : Int × Nat) : Int := distZ (p.1 % 8) p.2
def okP (side : Int) (p : Int × Nat) : Prop := p.2 < 8 ∧ co1 p ≤ goneZ side p.1 ∧ goneZ side p.1 ≤ 5
def Fit (side : Int) (ps : List (Int × Nat)) : Prop := (ps.map (·.2)).Nodup ∧ ∀ p ∈ ps, okP side p
def cost : List (Int × Nat) → Int
  | [] => 0
  | p :: ps => co1 p + cost ps
theorem co1_bd {side : Int} {p : Int × Nat} (h : okP side p) : 0 ≤ co1 p ∧ co1 p ≤ 5 := by
  have := h.2; have := h.1; refine ⟨?_, by omega⟩; unfold co1 distZ; split <;> omega
theorem co1_nn (p : Int × Nat) : 0 ≤ co1 p := by unfold co1 distZ; split <;> omega
theorem cost_nn : ∀ ps : List (Int × Nat), 0 ≤ cost ps
  | [] => by unfold cost; omega
  | p :: ps => by have := cost_nn ps; have := co1_nn p; unfold cost; omega
theorem cost_app (ps qs : List (Int × Nat)) : cost (ps ++ qs) = cost ps + cost qs := by
  induction ps with
  | nil => simp [cost]
  | cons p ps ih => simp [cost, ih]; omega
theorem cost_perm {ps qs : List (Int × Nat)} (h : ps.Perm qs) : cost ps = cost qs := by
  induction h with
  | nil => rfl
  | cons x _ ih => simp [cost, ih]
  | swap x y l => simp [cost]; omega
  | trans _ _ a b => exact a.trans b
theorem Fit.perm {side : Int} {ps qs : List (Int × Nat)} (h : ps.Perm qs) (hf : Fit side ps) : Fit side qs :=
  ⟨((h.map _).nodup_iff).1 hf.1, fun p hp => hf.2 p (h.mem_iff.2 hp)⟩
theorem Fit.nil (side : Int) : Fit side [] := ⟨List.nodup_nil, fun _ h => by cases h⟩
theorem Fit.cons {side : Int} {p : Int × Nat} {ps : List (Int × Nat)} : Fit side (p :: ps) ↔ okP side p ∧ p.2 ∉ ps.map (·.2) ∧ Fit side ps := by
  unfold Fit
  rw [List.map_cons, List.nodup_cons]
  constructor
  · rintro ⟨⟨h1, h2⟩, h3⟩; exact ⟨h3 p (List.mem_cons_self ..), h1, h2, fun q hq => h3 q (List.mem_cons_of_mem _ hq)⟩
  · rintro ⟨h1, h2, h3, h4⟩; exact ⟨⟨h2, h3⟩, fun q hq => by rcases List.mem_cons.1 hq with rfl | hq; exact h1; exact h4 q hq⟩
theorem Fit.snoc {side : Int} {p : Int × Nat} {ps : List (Int × Nat)} : Fit side (ps ++ [p]) ↔ okP side p ∧ p.2 ∉ ps.map (·.2) ∧ Fit side ps := by
  rw [← Fit.cons]
  have : (ps ++ [p]).Perm (p :: ps) := List.perm_append_comm
  exact ⟨fun h => h.perm this, fun h => h.perm this.symm⟩
theorem cost_le {side : Int} : ∀ {ps : List (Int × Nat)}, Fit side ps → cost ps ≤ 5 * (ps.length : Int)
  | [], _ => by simp [cost]
  | p :: ps, h => by
    obtain ⟨h1, _, h3⟩ := Fit.cons.1 h
    have := co1_bd h1; have := cost_le h3
    simp only [cost, List.length_cons]; omega
def Best (side : Int) (l : List Int) (v : Int) : Prop :=
  (v = -1 ∧ ∀ ps, Fit side ps → ps.map (·.1) ≠ l) ∨ ((∃ ps, Fit side ps ∧ ps.map (·.1) = l ∧ cost ps = v) ∧ ∀ ps, Fit side ps → ps.map (·.1) = l → v ≤ cost ps)
theorem perm_pairs {l l' : List Int} (h : l.Perm l') : ∀ ps : List (Int × Nat), ps.map (·.1) = l → ∃ qs, ps.Perm qs ∧ qs.map (·.1) = l' := by
  induction h with
  | nil => intro ps h; exact ⟨ps, List.Perm.refl _, h⟩
  | cons x _ ih =>
    intro ps h
    cases ps with
    | nil => simp at h
    | cons p ps =>
      rw [List.map_cons, List.cons.injEq] at h
      obtain ⟨qs, h1, h2⟩ := ih ps h.2
      exact ⟨p :: qs, h1.cons p, by rw [List.map_cons, h.1, h2]⟩
  | swap x y l =>
    intro ps h
    match ps, h with
    | p :: q :: ps, h =>
      simp only [List.map_cons, List.cons.injEq] at h
      exact ⟨q :: p :: ps, List.Perm.swap q p ps, by simp only [List.map_cons, h.1, h.2.1, h.2.2]⟩
  | trans _ _ a b =>
    intro ps h
    obtain ⟨qs, h1, h2⟩ := a ps h
    obtain ⟨rs, h3, h4⟩ := b qs h2
    exact ⟨rs, h1.trans h3, h4⟩
theorem Best.perm {side : Int} {l l' : List Int} {v : Int} (hp : l.Perm l') (h : Best side l v) : Best side l' v := by
  rcases h with ⟨h, hn⟩ | ⟨⟨ps, h1, h2, h3⟩, hm⟩
  · refine .inl ⟨h, fun qs hq e => ?_⟩
    obtain ⟨ps, g1, g2⟩ := perm_pairs hp.symm qs e
    exact hn ps (hq.perm g1) g2
  · obtain ⟨qs, g1, g2⟩ := perm_pairs hp ps h2
    refine .inr ⟨⟨qs, h1.perm g1, g2, by rw [← cost_perm g1, h3]⟩, fun rs hr e => ?_⟩
    obtain ⟨us, k1, k2⟩ := perm_pairs hp.symm rs e
    rw [cost_perm k1]; exact hm us (hr.perm k1) k2
def pcN (s : Nat) : Nat := ((List.range 8).filter fun f => s.testBit f).length
def tabA (s f : Nat) : Bool := s.testBit f || (decide (s + 2 ^ f < 256) && (pcN (s + 2 ^ f) == pcN s + 1) && (List.range 8).all fun g => (s + 2 ^ f).testBit g == (s.testBit g || g == f))
def tabB (s f : Nat) : Bool := !s.testBit f || (decide (2 ^ f ≤ s) && !(s - 2 ^ f).testBit f)
theorem tabA_all : ((List.range 256).all fun s => (List.range 8).all fun f => tabA s f) = true := by decide +kernel
theorem tabB_all : ((List.range 256).all fun s => (List.range 8).all fun f => tabB s f) = true := by decide +kernel
theorem set_up {s f : Nat} (hs : s < 256) (hf : f < 8) (h : s.testBit f = false) : s + 2 ^ f < 256 ∧ pcN (s + 2 ^ f) = pcN s + 1 ∧ ∀ g, g < 8 → (s + 2 ^ f).testBit g = (s.testBit g || g == f) := by
  have := List.all_eq_true.1 (List.all_eq_true.1 tabA_all s (List.mem_range.2 hs)) f (List.mem_range.2 hf)
  unfold tabA at this
  rw [h, Bool.false_or, Bool.and_eq_true, Bool.and_eq_true] at this
  refine ⟨of_decide_eq_true this.1.1, by simpa using this.1.2, fun g hg => ?_⟩
  have := List.all_eq_true.1 this.2 g (List.mem_range.2 hg)
  simpa using this
theorem set_down {s f : Nat} (hs : s < 256) (hf : f < 8) (h : s.testBit f = true) : 2 ^ f ≤ s ∧ (s - 2 ^ f).testBit f = false := by
  have := List.all_eq_true.1 (List.all_eq_true.1 tabB_all s (List.mem_range.2 hs)) f (List.mem_range.2 hf)
  unfold tabB at this
  rw [h, Bool.not_true, Bool.false_or, Bool.and_eq_true] at this
  exact ⟨of_decide_eq_true this.1, by simpa using this.2⟩
def mask : List (Int × Nat) → Nat
  | [] => 0
  | p :: ps => mask ps + 2 ^ p.2
theorem mask_is {side : Int} : ∀ {ps : List (Int × Nat)}, Fit side ps → mask ps < 256 ∧ pcN (mask ps) = ps.length ∧ ∀ f, f < 8 → ((mask ps).testBit f = true ↔ f ∈ ps.map (·.2))
  | [], _ => ⟨by decide, by decide, fun f _ => by simp [mask]⟩
  | p :: ps, h => by
    obtain ⟨h1, h2, h3⟩ := Fit.cons.1 h
    obtain ⟨i1, i2, i3⟩ := mask_is h3
    have hb : (mask ps).testBit p.2 = false := by
      cases e : (mask ps).testBit p.2 with
      | false => rfl
      | true => exact absurd ((i3 _ h1.1).1 e) h2
    obtain ⟨u1, u2, u3⟩ := set_up i1 h1.1 hb
    refine ⟨u1, by rw [List.length_cons, ← i2]; exact u2, fun f hf => ?_⟩
    show (mask ps + 2 ^ p.2).testBit f = true ↔ _
    rw [u3 f hf, List.map_cons, List.mem_cons, Bool.or_eq_true, i3 f hf]
    constructor
    · rintro (h | h); exact .inr h; exact .inl (by simpa using h)
    · rintro (h | h); exact .inr (by simpa using h); exact .inl h
theorem mask_app (ps : List (Int × Nat)) (p : Int × Nat) : mask (ps ++ [p]) = mask ps + 2 ^ p.2 := by
  induction ps with
  | nil => rfl
  | cons q ps ih => show mask (ps ++ [p]) + 2 ^ q.2 = mask ps + 2 ^ q.2 + 2 ^ p.2; rw [ih]; omega
end Go.Proofs.Ytpjocgebnodnoaa
