import Derived.Test.YtaipghemddjecaaPlz
import Derived.Laws.RangeAny
import Derived.Lib.DecodeN
namespace Go.Proofs.Ytaipghemddjecaa
open Go.RowKit
def makeZ (k s : Int) : Int := if k < 1 ∨ 6 < k then 0 else if s = 0 then k else if s = 1 then -k else 0
def lettersL : List Nat := [80, 78, 66, 82, 81, 75, 112, 110, 98, 114, 113, 107]
def signsL : List Nat := [9817, 9816, 9815, 9814, 9813, 9812, 9823, 9822, 9821, 9820, 9819, 9818]
def lettersB : ByteArray := ⟨#[80, 78, 66, 82, 81, 75, 112, 110, 98, 114, 113, 107]⟩
def signsB : ByteArray := ⟨#[226, 153, 153, 226, 153, 152, 226, 153, 151, 226, 153, 150, 226, 153, 149, 226, 153, 148, 226, 153, 159, 226, 153, 158, 226, 153, 157, 226, 153, 156, 226, 153, 155, 226, 153, 154]⟩
structure RText (s : ByteArray) (n : Nat) (l : List Nat) : Prop where
  size : s.size = n * l.length
  dec : ∀ k, k < l.length → Utf8.decode s (n * k) = (l.getD k 0, n)
  pos : 0 < n
  few : l.length ≤ 12
theorem letters_text : RText lettersB 1 lettersL := ⟨rfl, by decide +kernel, by decide, by decide⟩
theorem signs_text : RText signsB 3 signsL := ⟨rfl, by decide +kernel, by decide, by decide⟩
def amongFrom (c : Int) : List Nat → Nat → Int
  | [], _ => 0
  | x :: l, i => if (x : Int) = c then makeZ ((i % 6 : Nat) + 1) ((i / 6 : Nat)) else amongFrom c l (i + 1)
def manOfRune (c : Int) : Int := if amongFrom c lettersL 0 = 0 then amongFrom c signsL 0 else amongFrom c lettersL 0
def ofZ (t : ByteArray) : Int := if t.size = 0 then 0 else if (Utf8.decode t 0).2 < t.size then 0 else manOfRune (Utf8.decode t 0).1
theorem amongFrom_step {c : Int} {l : List Nat} {k : Nat} (h : k < l.length) (hc : ((l.getD k 0 : Nat) : Int) ≠ c) : amongFrom c (l.drop k) k = amongFrom c (l.drop (k + 1)) (k + 1) := by
  rw [List.drop_eq_getElem_cons h, amongFrom, if_neg]
  rw [List.getD_eq_getElem?_getD, List.getElem?_eq_getElem h] at hc
  exact hc
theorem amongFrom_hit {c : Int} {l : List Nat} {k : Nat} (h : k < l.length) (hc : ((l.getD k 0 : Nat) : Int) = c) : amongFrom c (l.drop k) k = makeZ ((k : Int) % 6 + 1) ((k : Int) / 6) := by
  rw [List.drop_eq_getElem_cons h, amongFrom, if_pos]
  · rfl
  · rw [List.getD_eq_getElem?_getD, List.getElem?_eq_getElem h] at hc
    exact hc
theorem amongFrom_end {c : Int} {l : List Nat} {k : Nat} (h : l.length ≤ k) : amongFrom c (l.drop k) k = 0 := by
  rw [List.drop_eq_nil_of_le h, amongFrom]
theorem among_mem {c : Int} : ∀ (l : List Nat) (i : Nat), amongFrom c l i ≠ 0 → ∃ k, k < l.length ∧ ((l.getD k 0 : Nat) : Int) = c ∧ amongFrom c l i = makeZ (((i + k) % 6 : Nat) + 1) ((i + k) / 6 : Nat)
  | [], _, h => absurd rfl h
  | x :: l, i, h => by
    unfold amongFrom at h
    by_cases hx : (x : Int) = c
    · exact ⟨0, by simp, by simpa using hx, by unfold amongFrom; rw [if_pos hx]; rfl⟩
    · rw [if_neg hx] at h
      obtain ⟨k, h1, h2, h3⟩ := among_mem l (i + 1) h
      refine ⟨k + 1, by simp; omega, by simpa using h2, ?_⟩
      unfold amongFrom; rw [if_neg hx, h3, show i + 1 + k = i + (k + 1) by omega]
theorem of_range (t : ByteArray) : -6 ≤ ofZ t ∧ ofZ t ≤ 6 := by
  have mk : ∀ a b : Int, -6 ≤ makeZ a b ∧ makeZ a b ≤ 6 := fun a b => by unfold makeZ; repeat' split
                                                                         all_goals omega
  have am : ∀ (c : Int) (l : List Nat) (i : Nat), -6 ≤ amongFrom c l i ∧ amongFrom c l i ≤ 6 := fun c l i => by
    by_cases h : amongFrom c l i = 0
    · omega
    · obtain ⟨k, _, _, h3⟩ := among_mem l i h; rw [h3]; exact mk _ _
  unfold ofZ manOfRune
  repeat' split
  all_goals first | omega | exact am _ _ _
end Go.Proofs.Ytaipghemddjecaa
