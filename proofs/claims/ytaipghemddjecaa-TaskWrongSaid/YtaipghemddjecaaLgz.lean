import Derived.Test.YtaipghemddjecaaLvz
namespace Go.Proofs.Ytaipghemddjecaa
open Go.RowKit
set_option linter.unusedVariables false
set_option linter.unusedSimpArgs false
theorem bt_app (t m : ByteArray) {i : Nat} (h : i < t.size) : bt (t ++ m) i = bt t i := by
  have h' : i < t.data.toList.length := by simpa using h
  unfold bt
  rw [show (t ++ m).data.toList = t.data.toList ++ m.data.toList by simp]
  rw [List.getD_eq_getElem?_getD, List.getD_eq_getElem?_getD, List.getElem?_append_left h']
theorem size_app (t m : ByteArray) : (t ++ m).size = t.size + m.size := by simp
theorem bt_list {t h : ByteArray} (hs : t.size = h.size) (he : ∀ i : Nat, i < t.size → bt t i = bt h i) : t.data.toList = h.data.toList := by
  apply List.ext_getElem (by simpa using hs)
  intro i h1 h2
  have := he i (by simpa using h1)
  unfold bt at this
  rw [List.getD_eq_getElem?_getD, List.getD_eq_getElem?_getD, List.getElem?_eq_getElem h1, List.getElem?_eq_getElem h2] at this
  simp only [Option.getD_some] at this
  exact UInt8.toNat_inj.1 (by omega)
theorem ext_list (t : ByteArray) (n : Nat) : (t.extract 0 n).data.toList = t.data.toList.take n := by
  simp [ByteArray.data_extract]
theorem ext_bt (t : ByteArray) {n i : Nat} (h : i < n) : bt (t.extract 0 n) i = bt t i := by
  unfold bt
  rw [ext_list, List.getD_eq_getElem?_getD, List.getD_eq_getElem?_getD, List.getElem?_take, if_pos h]
theorem ext_eq {t h : ByteArray} (hs : h.size ≤ t.size) : (t.extract 0 h.size).toList = h.toList ↔ ∀ i : Nat, i < h.size → bt t i = bt h i := by
  rw [ByteArray.toList_eq, ByteArray.toList_eq]
  constructor
  · intro e i hi
    rw [← ext_bt t hi]
    unfold bt
    rw [e]
  · intro e
    refine bt_list (t := t.extract 0 h.size) (h := h) (by simp; omega) (fun i hi => ?_)
    have hi' : i < h.size := by simp at hi; omega
    rw [ext_bt t hi']; exact e i hi'
theorem beg_is {t h : ByteArray} : begB t h = true ↔ h.size ≤ t.size ∧ ∀ i : Nat, i < h.size → bt t i = bt h i := by
  unfold begB
  rw [Bool.and_eq_true, decide_eq_true_eq, beq_iff_eq]
  constructor
  · rintro ⟨h1, h2⟩; exact ⟨h1, (ext_eq h1).1 h2⟩
  · rintro ⟨h1, h2⟩; exact ⟨h1, (ext_eq h1).2 h2⟩
theorem first_hit (p : Nat → Prop) [DecidablePred p] : ∀ n : Nat, (∃ k, k < n ∧ p k ∧ ∀ j, j < k → ¬ p j) ∨ ∀ j, j < n → ¬ p j
  | 0 => .inr fun j hj => by omega
  | n + 1 => by
    rcases first_hit p n with ⟨k, h1, h2, h3⟩ | h
    · exact .inl ⟨k, by omega, h2, h3⟩
    · by_cases hp : p n
      · exact .inl ⟨n, by omega, hp, h⟩
      · refine .inr fun j hj => ?_
        rcases (show j < n ∨ j = n by omega) with h' | rfl
        · exact h j h'
        · exact hp
theorem apart_pos {ss : List ByteArray} (hp : apartB ss = true) : 0 < ss.length := by
  unfold apartB at hp
  rw [Bool.and_eq_true] at hp
  exact of_decide_eq_true hp.1
theorem apart_full {ss : List ByteArray} (hp : apartB ss = true) {i : Nat} (hi : i < ss.length) : 0 < (wd ss i).size := by
  have A := apart_at hp hi hi
  unfold badW at A
  rw [Bool.or_eq_false_iff] at A
  have := A.1
  rcases Nat.eq_zero_or_pos (wd ss i).size with h | h
  · exfalso
    rw [ByteArray.toList_eq] at this
    have e : (wd ss i).data.toList = [] := List.eq_nil_of_length_eq_zero (by simpa using h)
    rw [e] at this; cases this
  · exact h
end Go.Proofs.Ytaipghemddjecaa
