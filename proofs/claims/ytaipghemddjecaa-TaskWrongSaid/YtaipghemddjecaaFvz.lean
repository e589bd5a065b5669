import Derived.Test.YtaipghemddjecaaMnz
import Derived.Test.YtaipghemddjecaaLnnz
import Derived.Test.YtaipghemddjecaaGwz
import Derived.Laws.RangeAny
namespace Go.Proofs.Ytaipghemddjecaa
open Go.RowKit
set_option linter.unusedVariables false
set_option linter.unusedSimpArgs false
theorem wi8 {x : Int} (h0 : -128 ≤ x) (h1 : x < 128) : IntKind.i8.wrap x = x := by unfold IntKind.wrap; simp [IntKind.signed, IntKind.bits]; omega
theorem nt_get {l : List Int} {i : Nat} (h : i < l.length) : nt l i 0 = l[i] := by unfold nt; rw [List.getD_eq_getElem?_getD, List.getElem?_eq_getElem h]; rfl
theorem nt_out {l : List Int} {i : Nat} (h : l.length ≤ i) : nt l i 0 = 0 := by unfold nt; rw [List.getD_eq_getElem?_getD, List.getElem?_eq_none h]; rfl
theorem nt_app {l m : List Int} {i : Nat} (h : i < l.length) : nt (l ++ m) i 0 = nt l i 0 := by unfold nt; rw [List.getD_eq_getElem?_getD, List.getD_eq_getElem?_getD, List.getElem?_append_left h]
theorem nt_app2 {l m : List Int} {i : Nat} (h : l.length ≤ i) : nt (l ++ m) i 0 = nt m (i - l.length) 0 := by unfold nt; rw [List.getD_eq_getElem?_getD, List.getD_eq_getElem?_getD, List.getElem?_append_right h]
def ix (i : Nat) : Nat := 8 * (7 - i / 8) + i % 8
theorem ix_ix {i : Nat} (h : i < 64) : ix (ix i) = i := by unfold ix; omega
def bd (l : List Int) : List Int := (List.range 64).map fun s => nt l (ix s) 0
theorem bd_len (l : List Int) : (bd l).length = 64 := by simp [bd]
theorem bd_get (l : List Int) {s : Nat} (h : s < 64) : nt (bd l) s 0 = nt l (ix s) 0 := by
  rw [nt_get (by rw [bd_len]; exact h)]; simp [bd]
theorem ext64 {a b : List Int} (ha : a.length = 64) (hb : b.length = 64) (h : ∀ s, s < 64 → nt a s 0 = nt b s 0) : a = b := by
  apply List.ext_getElem (by omega)
  intro i h1 h2
  have := h i (by omega)
  rwa [nt_get h1, nt_get h2] at this
theorem nt_set {l : List Int} {i s : Nat} {m : Int} (h : s < l.length) : nt (l.set i m) s 0 = if i = s then m else nt l s 0 := by
  rw [nt_get (by rw [List.length_set]; exact h), List.getElem_set]
  split
  · rfl
  · rw [nt_get h]
theorem bd_set {l : List Int} {m : Int} (h : l.length < 64) : (bd l).set (ix l.length) m = bd (l ++ [m]) := by
  apply ext64 (by rw [List.length_set, bd_len]) (bd_len _)
  intro s hs
  rw [nt_set (by rw [bd_len]; exact hs), bd_get _ hs]
  split
  · rename_i e
    subst e
    rw [bd_get _ hs, ix_ix h, nt_app2 (Nat.le_refl _), Nat.sub_self]; rfl
  · rename_i e
    rw [bd_get _ hs]
    rcases Nat.lt_or_ge (ix s) l.length with h1 | h1
    · rw [nt_app h1]
    · rw [nt_out h1]
      rcases Nat.lt_or_ge l.length (ix s) with h2 | h2
      · rw [nt_out (by simp; omega)]
      · have : ix s = l.length := by omega
        exact absurd (by rw [← this, ix_ix hs]) e
theorem nt_rep (n i : Nat) : nt (List.replicate n (0 : Int)) i 0 = 0 := by
  rcases Nat.lt_or_ge i n with h | h
  · rw [nt_get (by simpa using h)]; simp
  · exact nt_out (by simpa using h)
theorem bd_rep (l : List Int) (n : Nat) : bd (l ++ List.replicate n 0) = bd l := by
  apply ext64 (bd_len _) (bd_len _)
  intro s hs
  rw [bd_get _ hs, bd_get _ hs]
  rcases Nat.lt_or_ge (ix s) l.length with h | h
  · rw [nt_app h]
  · rw [nt_app2 h, nt_rep, nt_out h]
theorem bd_nil : bd [] = zL := by decide +kernel
def manb (c : Int) : Int := ofZ ⟨#[UInt8.ofNat c.toNat]⟩
theorem enc_byte : ∀ c : Fin 128, Utf8.encode (c.val : Int) = ⟨#[UInt8.ofNat c.val]⟩ := by decide +kernel
theorem man_hi : ∀ c : Fin 256, 122 < c.val → ofZ ⟨#[UInt8.ofNat c.val]⟩ = 0 := by decide +kernel
theorem man_enc {c : Int} (h0 : 0 ≤ c) (h : c < 128) : ofZ (Utf8.encode c) = manb c := by
  obtain ⟨n, rfl⟩ : ∃ n : Nat, c = n := ⟨c.toNat, by omega⟩
  have := enc_byte ⟨n, by omega⟩
  dsimp only at this
  rw [this]; rfl
theorem manb_hi {c : Int} (h0 : 122 < c) (h : c < 256) : manb c = 0 := by
  obtain ⟨n, rfl⟩ : ∃ n : Nat, c = n := ⟨c.toNat, by omega⟩
  exact man_hi ⟨n, by omega⟩ (by dsimp only; omega)
theorem manb_bd (c : Int) : -6 ≤ manb c ∧ manb c ≤ 6 := of_range _
abbrev FSt := List Int × Int × Int
def stp (c : Int) (s : FSt) : Option FSt :=
  if c = 47 then (if s.2.2 = 8 then (if s.2.1 = 7 then none else some (s.1, s.2.1 + 1, 0)) else none)
  else if 49 ≤ c ∧ c ≤ 56 then (if s.2.2 + (c - 48) > 8 then none else some (s.1 ++ List.replicate (c - 48).toNat 0, s.2.1, s.2.2 + (c - 48)))
  else if manb c = 0 then none else if s.2.2 + 1 > 8 then none else some (s.1 ++ [manb c], s.2.1, s.2.2 + 1)
def runS (t : ByteArray) : Nat → Option FSt
  | 0 => some ([], 0, 0)
  | n + 1 => (runS t n).bind (stp (bt t n))
structure Inv (s : FSt) : Prop where
  len : (s.1.length : Int) = 8 * s.2.1 + s.2.2
  r0 : 0 ≤ s.2.1
  r1 : s.2.1 ≤ 7
  f0 : 0 ≤ s.2.2
  f1 : s.2.2 ≤ 8
  el : ∀ i, -6 ≤ nt s.1 i 0 ∧ nt s.1 i 0 ≤ 6
theorem stp_inv {c : Int} {s s' : FSt} (h : Inv s) (e : stp c s = some s') : Inv s' := by
  obtain ⟨l, r, f⟩ := s
  have ⟨h1, h2, h3, h4, h5, h6⟩ := h
  simp only at h1 h2 h3 h4 h5 h6
  unfold stp at e
  simp only at e
  split at e
  · split at e
    · split at e
      · cases e
      · cases e
        exact ⟨by simp only; omega, by simp only; omega, by simp only; omega, by simp, by simp, h6⟩
    · cases e
  · split at e
    · split at e
      · cases e
      · cases e
        refine ⟨by simp only [List.length_append, List.length_replicate]; omega, h2, h3, by simp only; omega, by simp only; omega, fun i => ?_⟩
        simp only
        rcases Nat.lt_or_ge i l.length with h | h
        · rw [nt_app h]; exact h6 i
        · rw [nt_app2 h, nt_rep]; omega
    · split at e
      · cases e
      · split at e
        · cases e
        · cases e
          refine ⟨by simp only [List.length_append, List.length_singleton]; omega, h2, h3, by simp only; omega, by simp only; omega, fun i => ?_⟩
          simp only
          rcases Nat.lt_or_ge i l.length with h | h
          · rw [nt_app h]; exact h6 i
          · rw [nt_app2 h]
            rcases Nat.lt_or_ge (i - l.length) 1 with h' | h'
            · have : i - l.length = 0 := by omega
              rw [this]; exact manb_bd c
            · rw [nt_out (by simpa using h')]; omega
theorem run_inv (t : ByteArray) : ∀ (n : Nat) (s : FSt), runS t n = some s → Inv s := by
  intro n
  induction n with
  | zero => intro s h; cases h; exact ⟨rfl, by decide, by decide, by decide, by decide, fun i => by rw [nt_out (by simp)]; omega⟩
  | succ n ih =>
    intro s h
    simp only [runS] at h
    obtain ⟨s1, h1, h2⟩ := Option.bind_eq_some_iff.mp h
    exact stp_inv (ih s1 h1) h2
end Go.Proofs.Ytaipghemddjecaa
