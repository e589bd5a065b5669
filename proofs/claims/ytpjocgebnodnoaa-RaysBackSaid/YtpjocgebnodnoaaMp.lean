/- Plain words on men, no program in sight. -/
import Derived.Test.YtpjocgebnodnoaaPl
import Derived.Laws.RangeAny
import Derived.Lib.DecodeN
namespace Go.Proofs.Ytpjocgebnodnoaa
open Go.RowKit
def kindZ (m : Int) : Int := if m = 0 ∨ m < -6 ∨ 6 < m then 0 else if 0 < m then m else -m
def sideZ (m : Int) : Int := if m = 0 ∨ m < -6 ∨ 6 < m then -1 else if 0 < m then 0 else 1
theorem kindZ_out {m : Int} (h : m < -6 ∨ 6 < m) : kindZ m = 0 := by unfold kindZ; rw [if_pos (by omega)]
theorem sideZ_out {m : Int} (h : m < -6 ∨ 6 < m) : sideZ m = -1 := by unfold sideZ; rw [if_pos (by omega)]
def manB (m : Int) : Bool := decide (m ≠ 0 ∧ -6 ≤ m ∧ m ≤ 6)
def makeZ (k s : Int) : Int := if k < 1 ∨ 6 < k then 0 else if s = 0 then k else if s = 1 then -k else 0
def otherZ (s : Int) : Int := if s = 0 then 1 else if s = 1 then 0 else -1
def lettersL : List Nat := [80, 78, 66, 82, 81, 75, 112, 110, 98, 114, 113, 107]
def signsL : List Nat := [9817, 9816, 9815, 9814, 9813, 9812, 9823, 9822, 9821, 9820, 9819, 9818]
def lettersB : ByteArray := ⟨#[80, 78, 66, 82, 81, 75, 112, 110, 98, 114, 113, 107]⟩
def signsB : ByteArray := ⟨#[226, 153, 153, 226, 153, 152, 226, 153, 151, 226, 153, 150, 226, 153, 149, 226, 153, 148, 226, 153, 159, 226, 153, 158, 226, 153, 157, 226, 153, 156, 226, 153, 155, 226, 153, 154]⟩
/-- a text's runes: each of n bytes. -/
structure RText (s : ByteArray) (n : Nat) (l : List Nat) : Prop where
  size : s.size = n * l.length
  dec : ∀ k, k < l.length → Utf8.decode s (n * k) = (l.getD k 0, n)
  pos : 0 < n
  few : l.length ≤ 12
theorem letters_text : RText lettersB 1 lettersL := ⟨rfl, by decide +kernel, by decide, by decide⟩
theorem signs_text : RText signsB 3 signsL := ⟨rfl, by decide +kernel, by decide, by decide⟩
/-- the man of the rune c among those from the i-th on. -/
def amongFrom (c : Int) : List Nat → Nat → Int
  | [], _ => 0
  | x :: l, i => if (x : Int) = c then makeZ ((i % 6 : Nat) + 1) ((i / 6 : Nat)) else amongFrom c l (i + 1)
def manOfRune (c : Int) : Int := if amongFrom c lettersL 0 = 0 then amongFrom c signsL 0 else amongFrom c lettersL 0
def placeZ (m : Int) : Int := if 0 < m then m - 1 else 5 - m
def letterB (m : Int) : ByteArray := if m = 0 ∨ m < -6 ∨ 6 < m then ⟨#[]⟩ else Utf8.encode (lettersL.getD (placeZ m).toNat 0 : Nat)
def signB (m : Int) : ByteArray := if m = 0 ∨ m < -6 ∨ 6 < m then ⟨#[]⟩ else Utf8.encode (signsL.getD (placeZ m).toNat 0 : Nat)
theorem letterB_out {m : Int} (h : m < -6 ∨ 6 < m) : letterB m = ⟨#[]⟩ := by unfold letterB; rw [if_pos (by omega)]
theorem signB_out {m : Int} (h : m < -6 ∨ 6 < m) : signB m = ⟨#[]⟩ := by unfold signB; rw [if_pos (by omega)]
def worthZ (m : Int) : Int := if kindZ m = 1 then 1 else if kindZ m = 2 ∨ kindZ m = 3 then 3 else if kindZ m = 4 then 5 else if kindZ m = 5 then 9 else 0
theorem worthZ_out {m : Int} (h : m < -6 ∨ 6 < m) : worthZ m = 0 := by unfold worthZ; rw [kindZ_out h]; rfl
/-- the man of a text: its one rune's. -/
def ofZ (t : ByteArray) : Int := if t.size = 0 then 0 else if (Utf8.decode t 0).2 < t.size then 0 else manOfRune (Utf8.decode t 0).1
theorem amongFrom_step {c : Int} {l : List Nat} {k : Nat} (h : k < l.length) (hc : ((l.getD k 0 : Nat) : Int) ≠ c) : amongFrom c (l.drop k) k = amongFrom c (l.drop (k + 1)) (k + 1) := by
  rw [List.drop_eq_getElem_cons h, amongFrom, if_neg]
  rw [List.getD_eq_getElem?_getD, List.getElem?_eq_getElem h] at hc
  exact hc
theorem amongFrom_hit {c : Int} {l : List Nat} {k : Nat} (h : k < l.length) (hc : ((l.getD k 0 : Nat) : Int) = c) : amongFrom c (l.drop k) k = makeZ ((k : Int) % 6 + 1) ((k : Int) / 6) := by
  rw [List.drop_eq_getElem_cons h, amongFrom, if_pos]
  · rfl
  · rw [List.getD_eq_getElem?_getD, List.getElem?_eq_getElem h] at hc
    exact hc
theorem amongFrom_end {c : Int} {l : List Nat} {k : Nat} (h : l.length ≤ k) : amongFrom c (l.drop k) k = 0 := by
  rw [List.drop_eq_nil_of_le h, amongFrom]
theorem of_letter0 : ∀ k : Fin 13, (k.val : Int) - 6 ≠ 0 → ofZ (letterB ((k.val : Int) - 6)) = (k.val : Int) - 6 ∧ ofZ (signB ((k.val : Int) - 6)) = (k.val : Int) - 6 := by decide +kernel
theorem of_hit {m : Int} (h0 : -6 ≤ m) (h1 : m ≤ 6) (h2 : m ≠ 0) : ofZ (letterB m) = m ∧ ofZ (signB m) = m := by
  have h := of_letter0 ⟨(m + 6).toNat, by omega⟩
  simp only [show (((m + 6).toNat : Nat) : Int) - 6 = m by omega] at h
  exact h h2
theorem among_mem {c : Int} : ∀ (l : List Nat) (i : Nat), amongFrom c l i ≠ 0 → ∃ k, k < l.length ∧ ((l.getD k 0 : Nat) : Int) = c ∧ amongFrom c l i = makeZ (((i + k) % 6 : Nat) + 1) ((i + k) / 6 : Nat)
  | [], _, h => absurd rfl h
  | x :: l, i, h => by
    unfold amongFrom at h
    by_cases hx : (x : Int) = c
    · exact ⟨0, by simp, by simpa using hx, by unfold amongFrom; rw [if_pos hx]; rfl⟩
    · rw [if_neg hx] at h
      obtain ⟨k, h1, h2, h3⟩ := among_mem l (i + 1) h
      refine ⟨k + 1, by simp; omega, by simpa using h2, ?_⟩
      unfold amongFrom; rw [if_neg hx, h3, show i + 1 + k = i + (k + 1) by omega]
theorem get_bt (t : ByteArray) (i : Nat) (h : i < t.size) : ((t.get! (0 + i)).toNat : Int) = bt t i := by
  have e0 : t.get! (0 + i) = t.get! (i + 0) := congrArg (fun j => t.get! j) (by omega)
  have e : t.get! (0 + i) = t[i]'h := Eq.trans e0 (get_at t i h)
  have e2 := bt_get t i h
  rw [← e] at e2
  exact e2
theorem ba1 {t : ByteArray} (h : t.size = 1) : t = ⟨#[UInt8.ofNat (bt t 0).toNat]⟩ := by
  obtain ⟨⟨l⟩⟩ := t
  match l, h with
  | [a], _ =>
    have e : ∀ x : UInt8, UInt8.ofNat (Int.toNat ((x.toNat : Nat) : Int)) = x := fun x => by simp
    show _ = (⟨#[UInt8.ofNat (Int.toNat ((a.toNat : Nat) : Int))]⟩ : ByteArray)
    rw [e]
theorem ba3 {t : ByteArray} (h : t.size = 3) : t = ⟨#[UInt8.ofNat (bt t 0).toNat, UInt8.ofNat (bt t 1).toNat, UInt8.ofNat (bt t 2).toNat]⟩ := by
  obtain ⟨⟨l⟩⟩ := t
  match l, h with
  | [a, b, c], _ =>
    have e : ∀ x : UInt8, UInt8.ofNat (Int.toNat ((x.toNat : Nat) : Int)) = x := fun x => by simp
    show _ = (⟨#[UInt8.ofNat (Int.toNat ((a.toNat : Nat) : Int)), UInt8.ofNat (Int.toNat ((b.toNat : Nat) : Int)), UInt8.ofNat (Int.toNat ((c.toNat : Nat) : Int))]⟩ : ByteArray)
    rw [e, e, e]
/-- what a decoded ASCII rune, or a sign's, was read from. -/
theorem decode_small {t : ByteArray} {c w : Nat} (h : Utf8.decode t 0 = (c, w)) (hs : 0 < t.size) (hc : c < 128) : w = 1 ∧ bt t 0 = c := by
  by_cases ha : (t[0]'hs).toNat < 128
  · rw [decode_ascii t 0 hs ha] at h
    injection h with h1 h2
    exact ⟨h2.symm, by rw [← bt_get t 0 hs, h1]⟩
  · have := (decode_high t 0 hs (by omega)).1
    rw [h] at this; simp at this; omega
theorem sign_core {n b0 b1 b2 b3 c w : Nat} (h : Lib.decodeN n b0 b1 b2 b3 = (c, w)) (h0 : 9812 ≤ c) (h1 : c ≤ 9823) : w = 3 ∧ 3 ≤ n ∧ b0 = 226 ∧ b1 = 153 ∧ b2 = 148 + (c - 9812) := by
  unfold Lib.decodeN at h
  split at h
  · injection h; omega
  split at h
  · split at h <;> injection h <;> omega
  split at h
  · split at h
    · injection h; omega
    · injection h; omega
  split at h
  · split at h <;> injection h <;> omega
  · injection h; omega
theorem decode_sign {t : ByteArray} {c w : Nat} (h : Utf8.decode t 0 = (c, w)) (h0 : 9812 ≤ c) (h1 : c ≤ 9823) : w = 3 ∧ 3 ≤ t.size ∧ bt t 0 = 226 ∧ bt t 1 = 153 ∧ bt t 2 = 148 + (c - 9812) := by
  rw [Lib.decode_at] at h
  obtain ⟨e1, e2, e3, e4, e5⟩ := sign_core h h0 h1
  refine ⟨e1, e2, ?_, ?_, ?_⟩
  · rw [← get_bt t 0 (by omega)]; simp only [Nat.zero_add] at *; omega
  · rw [← get_bt t 1 (by omega)]; simp only [Nat.zero_add] at *; omega
  · rw [← get_bt t 2 (by omega)]; simp only [Nat.zero_add] at *; omega
theorem letters_enc : ∀ k : Fin 12, (⟨#[UInt8.ofNat (lettersL.getD k.val 0)]⟩ : ByteArray) = letterB (makeZ (((0 + k.val) % 6 : Nat) + 1) ((0 + k.val) / 6 : Nat)) ∧ lettersL.getD k.val 0 < 128 := by decide +kernel
theorem signs_enc : ∀ k : Fin 12, (⟨#[226, 153, UInt8.ofNat (148 + (signsL.getD k.val 0 - 9812))]⟩ : ByteArray) = signB (makeZ (((0 + k.val) % 6 : Nat) + 1) ((0 + k.val) / 6 : Nat)) ∧ 9812 ≤ signsL.getD k.val 0 ∧ signsL.getD k.val 0 ≤ 9823 := by decide +kernel
theorem of_named {t : ByteArray} (h : ofZ t ≠ 0) : letterB (ofZ t) = t ∨ signB (ofZ t) = t := by
  by_cases hs : t.size = 0
  · exact absurd (by unfold ofZ; rw [if_pos hs]) h
  by_cases hw : (Utf8.decode t 0).2 < t.size
  · exact absurd (by unfold ofZ; rw [if_neg hs, if_pos hw]) h
  have e : ofZ t = manOfRune (Utf8.decode t 0).1 := by unfold ofZ; rw [if_neg hs, if_neg hw]
  obtain ⟨⟨c, w⟩, hd⟩ : ∃ p : Nat × Nat, p = Utf8.decode t 0 := ⟨_, rfl⟩
  rw [← hd] at e hw
  dsimp only at e hw
  by_cases ha : amongFrom (c : Int) lettersL 0 = 0
  · have e2 : ofZ t = amongFrom (c : Int) signsL 0 := by rw [e]; unfold manOfRune; rw [if_pos ha]
    obtain ⟨k, h1, h2, h3⟩ := among_mem signsL 0 (by rw [← e2]; exact h)
    obtain ⟨p1, p2, p3⟩ := signs_enc ⟨k, h1⟩
    dsimp only at p1 p2 p3
    have hc : signsL.getD k 0 = c := by omega
    rw [hc] at p1 p2 p3
    obtain ⟨q1, q2, q3, q4, q5⟩ := decode_sign hd.symm p2 p3
    right
    rw [e2, h3, ← p1]
    have hb := ba3 (t := t) (by omega)
    have x0 : (bt t 0).toNat = 226 := by omega
    have x1 : (bt t 1).toNat = 153 := by omega
    have x2 : (bt t 2).toNat = 148 + (c - 9812) := by omega
    rw [x0, x1, x2] at hb
    generalize 148 + (c - 9812) = n at *
    exact hb.symm
  · have e2 : ofZ t = amongFrom (c : Int) lettersL 0 := by rw [e]; unfold manOfRune; rw [if_neg ha]
    obtain ⟨k, h1, h2, h3⟩ := among_mem lettersL 0 (by rw [← e2]; exact h)
    obtain ⟨p1, p2⟩ := letters_enc ⟨k, h1⟩
    dsimp only at p1 p2
    have hc : lettersL.getD k 0 = c := by omega
    rw [hc] at p1 p2
    obtain ⟨q1, q2⟩ := decode_small hd.symm (by omega) p2
    left
    rw [e2, h3, ← p1]
    have hb := ba1 (t := t) (by omega)
    have x0 : (bt t 0).toNat = c := by omega
    rw [x0] at hb
    exact hb.symm
theorem of_range (t : ByteArray) : -6 ≤ ofZ t ∧ ofZ t ≤ 6 := by
  have mk : ∀ a b : Int, -6 ≤ makeZ a b ∧ makeZ a b ≤ 6 := fun a b => by unfold makeZ; repeat' split
                                                                         all_goals omega
  have am : ∀ (c : Int) (l : List Nat) (i : Nat), -6 ≤ amongFrom c l i ∧ amongFrom c l i ≤ 6 := fun c l i => by
    by_cases h : amongFrom c l i = 0
    · omega
    · obtain ⟨k, _, _, h3⟩ := among_mem l i h; rw [h3]; exact mk _ _
  unfold ofZ manOfRune
  repeat' split
  all_goals first | omega | exact am _ _ _
theorem of_eq {t : ByteArray} {m : Int} (h0 : -6 ≤ m) (h1 : m ≤ 6) (h2 : m ≠ 0) (h : letterB m = t ∨ signB m = t) : ofZ t = m := by
  rcases h with h | h
  · rw [← h]; exact (of_hit h0 h1 h2).1
  · rw [← h]; exact (of_hit h0 h1 h2).2
theorem of_none {t : ByteArray} (h : ∀ m : Int, -6 ≤ m → m < 7 → m ≠ 0 → letterB m ≠ t ∧ signB m ≠ t) : ofZ t = 0 := by
  by_cases hz : ofZ t = 0
  · exact hz
  · have hr := of_range t
    have := h (ofZ t) hr.1 (by omega) hz
    rcases of_named hz with h' | h'
    · exact absurd h' this.1
    · exact absurd h' this.2
end Go.Proofs.Ytpjocgebnodnoaa
