/- Tables in plain words: what is got is what was put last; what a map beside it tells. -/
import Derived.Test.YtpjocgebnodnoaaUg
import Derived.Maps.OwnSet
import Derived.Maps.Views
import Derived.WideKeyPair
namespace Go.Proofs.Ytpjocgebnodnoaa
open Go.RowKit
set_option linter.unusedVariables false
set_option linter.unusedSimpArgs false
set_option maxRecDepth 100000
/-- every entry stands in its row; none stands twice. -/
structure Good (L : Slots) : Prop where
  row : ∀ i q x, nt L i none = some (q, x) → i ∈ rowZ L.length q
  one : ∀ i j q x y, nt L i none = some (q, x) → nt L j none = some (q, y) → i = j
theorem good_empty (n : Nat) : Good (emptyZ n) := by
  constructor
  · intro i q x h; unfold emptyZ at h; rw [nt_rep] at h; cases h
  · intro i j q x y h; unfold emptyZ at h; rw [nt_rep] at h; cases h
theorem nt_set_ne {L : Slots} {i j : Nat} (h : j ≠ i) (v : Option (Key × Int)) : nt (L.set i v) j none = nt L j none := by unfold nt; simp [List.getD, List.getElem?_set_ne (Ne.symm h)]
theorem nt_set_eq {L : Slots} {i : Nat} (h : i < L.length) (v : Option (Key × Int)) : nt (L.set i v) i none = v := by unfold nt; simp [List.getD, h]
theorem find_one {L : Slots} (h : Good L) {q : Key} {i : Nat} {x : Int} (hn : nt L i none = some (q, x)) : findZ_ L q = some i := by
  cases hf : findZ_ L q with
  | none =>
    have := List.find?_eq_none.1 hf i (h.row i q x hn)
    exact absurd (by unfold atB; rw [hn]; simp) this
  | some j =>
    obtain ⟨y, hy⟩ := found_at hf
    rw [h.one i j q x y hn hy]
theorem find_nt {L : Slots} {q : Key} (hf : findZ_ L q = none) (hg : Good L) : ∀ i x, nt L i none ≠ some (q, x) := fun i x hn => by rw [find_one hg hn] at hf; cases hf
theorem get_iff {L : Slots} (h : Good L) {q : Key} {x : Int} : getZ L q = some x ↔ ∃ i, nt L i none = some (q, x) := by
  constructor
  · intro hg
    unfold getZ at hg
    cases hf : findZ_ L q with
    | none => rw [hf] at hg; cases hg
    | some i =>
      obtain ⟨y, hy⟩ := found_at hf
      rw [hf, Option.bind_some, hy] at hg
      injection hg with hg
      exact ⟨i, by rw [hy]; rw [show y = x from hg]⟩
  · rintro ⟨i, hn⟩
    unfold getZ; rw [find_one h hn, Option.bind_some, hn]; rfl
theorem roomG_mem (L : Slots) : ∀ (l : List Nat) (best : Option Nat) (b : Nat), roomG L best l = some b → b ∈ l ∨ best = some b
  | [], best, b, h => .inr h
  | i :: l, best, b, h => by
    unfold roomG at h
    split at h
    · injection h with h; subst h; exact .inl (by simp)
    · rcases roomG_mem L l _ b h with h2 | h2
      · exact .inl (by simp [h2])
      · cases best with
        | none => injection h2 with h2; subst h2; exact .inl (by simp)
        | some b3 =>
          simp only at h2
          split at h2
          · injection h2 with h2; subst h2; exact .inl (by simp)
          · exact .inr h2
theorem roomG_some (L : Slots) : ∀ (l : List Nat) (best : Option Nat), l ≠ [] ∨ best ≠ none → ∃ b, roomG L best l = some b
  | [], best, h => by
    cases best with
    | none => simp at h
    | some b => exact ⟨b, rfl⟩
  | i :: l, best, _ => by
    unfold roomG
    split
    · exact ⟨i, rfl⟩
    · refine roomG_some L l _ (.inr ?_)
      cases best with
      | none => simp
      | some b => simp only; split <;> simp
theorem roomZ_row {L : Slots} (q : Key) (h : 0 < L.length) : roomZ L q ∈ rowZ L.length q := by
  obtain ⟨b, hb⟩ := roomG_some L (rowZ L.length q) none (.inl (fun e => by have := rowZ_len L.length q; rw [e] at this; simp at this; omega))
  unfold roomZ; rw [hb]
  rcases roomG_mem L _ _ b hb with h2 | h2
  · exact h2
  · cases h2
/-- the place at which a value is put. -/
def putI (L : Slots) (q : Key) : Nat := (findZ_ L q).getD (roomZ L q)
theorem putZ_eq (L : Slots) (q : Key) (y : Int) : putZ L q y = L.set (putI L q) (some (q, y)) := rfl
theorem putI_row {L : Slots} (q : Key) (h : 0 < L.length) : putI L q ∈ rowZ L.length q := by
  unfold putI
  cases hf : findZ_ L q with
  | none => exact roomZ_row q h
  | some i => exact List.mem_of_find?_eq_some hf
theorem putI_lt {L : Slots} (q : Key) (h : 0 < L.length) : putI L q < L.length := rowZ_lt h q _ (putI_row q h)
theorem good_put {L : Slots} (h : Good L) (q : Key) (y : Int) (h0 : 0 < L.length) : Good (putZ L q y) := by
  have hl : (putZ L q y).length = L.length := by rw [putZ_eq, List.length_set]
  have lt := putI_lt q h0
  have other : ∀ j x, j ≠ putI L q → nt L j none ≠ some (q, x) := fun j x hj hn => by
    refine hj ?_
    unfold putI; rw [find_one h hn]; rfl
  refine ⟨fun i q' x hn => ?_, fun i j q' x z h1 h2 => ?_⟩
  · rw [hl]
    rw [putZ_eq] at hn
    by_cases e : i = putI L q
    · rw [e, nt_set_eq lt] at hn; injection hn with hn; injection hn with e1 e2; rw [e, ← e1]; exact putI_row q h0
    · rw [nt_set_ne e] at hn; exact h.row i q' x hn
  · rw [putZ_eq] at h1 h2
    by_cases e1 : i = putI L q
    · by_cases e2 : j = putI L q
      · rw [e1, e2]
      · rw [e1, nt_set_eq lt] at h1; rw [nt_set_ne e2] at h2
        injection h1 with h1; injection h1 with e3 e4; rw [← e3] at h2
        exact absurd h2 (other j z e2)
    · by_cases e2 : j = putI L q
      · rw [e2, nt_set_eq lt] at h2; rw [nt_set_ne e1] at h1
        injection h2 with h2; injection h2 with e3 e4; rw [← e3] at h1
        exact absurd h1 (other i x e1)
      · rw [nt_set_ne e1] at h1; rw [nt_set_ne e2] at h2; exact h.one i j q' x z h1 h2
theorem get_put {L : Slots} (h : Good L) (q : Key) (y : Int) (h0 : 0 < L.length) : getZ (putZ L q y) q = some y :=
  (get_iff (good_put h q y h0)).2 ⟨putI L q, by rw [putZ_eq, nt_set_eq (putI_lt q h0)]⟩
theorem nt_put {L : Slots} (q : Key) (y : Int) (h0 : 0 < L.length) {i : Nat} {q' : Key} {x : Int} (hn : nt (putZ L q y) i none = some (q', x)) : (q' = q ∧ x = y) ∨ (q' ≠ q ∨ True) ∧ nt L i none = some (q', x) := by
  rw [putZ_eq] at hn
  by_cases e : i = putI L q
  · rw [e, nt_set_eq (putI_lt q h0)] at hn; injection hn with hn; injection hn with e1 e2; exact .inl ⟨e1.symm, e2.symm⟩
  · rw [nt_set_ne e] at hn; exact .inr ⟨.inr trivial, hn⟩
/-- fewer than. -/
theorem nodup_le {α : Type} [DecidableEq α] : ∀ (A B : List α), A.Nodup → (∀ a ∈ A, a ∈ B) → A.length ≤ B.length
  | [], _, _, _ => Nat.zero_le _
  | a :: A, B, hn, hs => by
    have hn' := List.nodup_cons.1 hn
    have hb : a ∈ B := hs a (by simp)
    have := nodup_le A (B.erase a) hn'.2 (fun x hx => (List.mem_erase_of_ne (a := x) (b := a) (fun e => hn'.1 (by rw [← e]; exact hx))).2 (hs x (by simp [hx])))
    rw [List.length_erase_of_mem hb] at this
    have hp := List.length_pos_of_mem hb
    rw [List.length_cons]; omega
/-- the names of the entries. -/
def keysOf (L : Slots) : List Key := L.filterMap fun o => o.map (·.1)
theorem keysOf_len (L : Slots) : (keysOf L).length = lenZ L := by
  unfold keysOf lenZ
  induction L with
  | nil => rfl
  | cons o L ih => cases o <;> simp [List.filterMap_cons, ih]
theorem keysOf_mem {L : Slots} {q : Key} (h : q ∈ keysOf L) : ∃ i x, nt L i none = some (q, x) := by
  unfold keysOf at h
  obtain ⟨o, ho, hq⟩ := List.mem_filterMap.1 h
  obtain ⟨i, hi, hio⟩ := List.getElem_of_mem ho
  cases o with
  | none => cases hq
  | some z => exact ⟨i, z.2, by unfold nt; simp [List.getD, List.getElem?_eq_getElem hi, hio]; injection hq with hq; rw [← hq]⟩
theorem keysOf_nodup {L : Slots} (h : ∀ i j q x y, nt L i none = some (q, x) → nt L j none = some (q, y) → i = j) : (keysOf L).Nodup := by
  unfold keysOf
  induction L with
  | nil => exact List.nodup_nil
  | cons o L ih =>
    have ih' := ih (fun i j q x y h1 h2 => by have := h (i + 1) (j + 1) q x y h1 h2; omega)
    cases o with
    | none => simpa using ih'
    | some z =>
      simp only [List.filterMap_cons, Option.map_some]
      refine List.nodup_cons.2 ⟨fun hm => ?_, ih'⟩
      obtain ⟨i, x, hx⟩ := keysOf_mem (L := L) hm
      have := h 0 (i + 1) z.1 z.2 x rfl hx
      omega
end Go.Proofs.Ytpjocgebnodnoaa
