/- Plain words on squares and men, no program in sight. -/
import Derived.WalkKit
import Derived.Laws.Cover4
namespace Go.Proofs.Ytpjocgebnodnoaa
open Go.RowKit

theorem hid {p : Prop} (h : p) : Hid p := h
theorem rv_int {k : IntKind} {a b : Int} (h : a = b) : Ending.returned (.int k a) = .returned (.int k b) := by rw [h]
theorem rv_bool {a b : Bool} (h : a = b) : Ending.returned (.bool a) = .returned (.bool b) := by rw [h]
theorem rv_ib {k : IntKind} {a b : Int} {c d : Bool} (h : a = b) (h2 : c = d) : Ending.returned (.tuple #[.int k a, .bool c]) = .returned (.tuple #[.int k b, .bool d]) := by rw [h, h2]
theorem beq_t {a b : Int} (h : a = b) : (a == b) = true := by simp [h]
theorem beq_f {a b : Int} (h : a ≠ b) : (a == b) = false := by simp [h]
theorem bne_t {a b : Int} (h : a ≠ b) : (a != b) = true := by simp [h]
theorem bne_f {a b : Int} (h : a = b) : (a != b) = false := by simp [h]

/-- a square's file; -1: no square. -/
def fileZ (s : Int) : Int := if 0 ≤ s ∧ s < 64 then s % 8 else -1
def rankZ (s : Int) : Int := if 0 ≤ s ∧ s < 64 then s / 8 else -1
theorem fileZ_in {s : Int} (h0 : 0 ≤ s) (h1 : s < 64) : fileZ s = s % 8 := by unfold fileZ; rw [if_pos ⟨h0, h1⟩]
theorem rankZ_in {s : Int} (h0 : 0 ≤ s) (h1 : s < 64) : rankZ s = s / 8 := by unfold rankZ; rw [if_pos ⟨h0, h1⟩]
theorem fileZ_out {s : Int} (h : ¬ (0 ≤ s ∧ s < 64)) : fileZ s = -1 := by unfold fileZ; rw [if_neg h]
theorem rankZ_out {s : Int} (h : ¬ (0 ≤ s ∧ s < 64)) : rankZ s = -1 := by unfold rankZ; rw [if_neg h]
/-- the square of a file and a rank; -1: there is none. -/
def findZ (f r : Int) : Int := if 0 ≤ f ∧ f < 8 ∧ 0 ≤ r ∧ r < 8 then 8 * r + f else -1
theorem findZ_in {f r : Int} (h0 : 0 ≤ f) (h1 : f < 8) (h2 : 0 ≤ r) (h3 : r < 8) : findZ f r = 8 * r + f := by unfold findZ; rw [if_pos ⟨h0, h1, h2, h3⟩]
theorem findZ_out {f r : Int} (h : ¬ (0 ≤ f ∧ f < 8 ∧ 0 ≤ r ∧ r < 8)) : findZ f r = -1 := by unfold findZ; rw [if_neg h]
theorem findZ_cases (f r : Int) : findZ f r = -1 ∨ (0 ≤ findZ f r ∧ findZ f r < 64) := by unfold findZ; split <;> omega
theorem findZ_hit {k f r : Int} (h0 : 0 ≤ k) (h1 : k < 64) (hf : k % 8 = f) (hr : k / 8 = r) : findZ f r = k := by unfold findZ; split <;> omega
theorem findZ_miss {k f r : Int} (h : findZ f r = -1 ∨ k ≤ findZ f r) (hn : ¬ (k % 8 = f ∧ k / 8 = r)) : findZ f r = -1 ∨ k + 1 ≤ findZ f r := by
  unfold findZ at *; split at h <;> rename_i hc
  · rw [if_pos hc] at *; omega
  · rw [if_neg hc]; omega
theorem findZ_done {f r : Int} (h : findZ f r = -1 ∨ 64 ≤ findZ f r) : findZ f r = -1 := by have := findZ_cases f r; omega
def stepZ (s f r : Int) : Int := if 0 ≤ s ∧ s < 64 then findZ (s % 8 + f) (s / 8 + r) else -1
theorem stepZ_in {s f r : Int} (h0 : 0 ≤ s) (h1 : s < 64) : stepZ s f r = findZ (s % 8 + f) (s / 8 + r) := by unfold stepZ; rw [if_pos ⟨h0, h1⟩]
theorem stepZ_out {s f r : Int} (h : ¬ (0 ≤ s ∧ s < 64)) : stepZ s f r = -1 := by unfold stepZ; rw [if_neg h]
theorem stepZ_cases (s f r : Int) : stepZ s f r = -1 ∨ (0 ≤ stepZ s f r ∧ stepZ s f r < 64) := by unfold stepZ; split; exact findZ_cases _ _; omega
def distZ (a b : Int) : Int := if a < b then b - a else a - b
def farZ (a b : Int) : Int := if (0 ≤ a ∧ a < 64) ∧ (0 ≤ b ∧ b < 64) then (if distZ (a % 8) (b % 8) < distZ (a / 8) (b / 8) then distZ (a / 8) (b / 8) else distZ (a % 8) (b % 8)) else -1
theorem farZ_in {a b : Int} (h0 : 0 ≤ a) (h1 : a < 64) (h2 : 0 ≤ b) (h3 : b < 64) : farZ a b = (if distZ (a % 8) (b % 8) < distZ (a / 8) (b / 8) then distZ (a / 8) (b / 8) else distZ (a % 8) (b % 8)) := by
  unfold farZ; rw [if_pos ⟨⟨h0, h1⟩, h2, h3⟩]
theorem farZ_out {a b : Int} (h : ¬ ((0 ≤ a ∧ a < 64) ∧ (0 ≤ b ∧ b < 64))) : farZ a b = -1 := by unfold farZ; rw [if_neg h]
/-- byte i of a text, 0 behind its end. -/
def bt (t : ByteArray) (i : Nat) : Int := ((t.data.toList.getD i 0).toNat : Int)
theorem bt_get (t : ByteArray) (i : Nat) (h : i < t.size) : ((t[i]'h).toNat : Int) = bt t i := by
  unfold bt
  have h' : i < t.data.toList.length := by simpa using h
  rw [List.getD_eq_getElem?_getD, List.getElem?_eq_getElem h']
  rfl
theorem bt_lo (t : ByteArray) (i : Nat) : 0 ≤ bt t i := by unfold bt; omega
theorem bt_hi (t : ByteArray) (i : Nat) : bt t i < 256 := by unfold bt; have := (t.data.toList.getD i 0).toNat_lt; omega
/-- the square of a name. -/
def isSq (t : ByteArray) : Bool := decide (t.size = 2 ∧ 97 ≤ bt t 0 ∧ bt t 0 ≤ 104 ∧ 49 ≤ bt t 1 ∧ bt t 1 ≤ 56)
def sqOf (t : ByteArray) : Int := if isSq t then 8 * (bt t 1 - 49) + (bt t 0 - 97) else 0
theorem isSq_yes {t : ByteArray} (h : t.size = 2 ∧ 97 ≤ bt t 0 ∧ bt t 0 ≤ 104 ∧ 49 ≤ bt t 1 ∧ bt t 1 ≤ 56) : isSq t = true ∧ sqOf t = 8 * (bt t 1 - 49) + (bt t 0 - 97) := by
  have e : isSq t = true := by unfold isSq; simpa using h
  exact ⟨e, by unfold sqOf; rw [if_pos e]⟩
theorem isSq_no {t : ByteArray} (h : ¬ (t.size = 2 ∧ 97 ≤ bt t 0 ∧ bt t 0 ≤ 104 ∧ 49 ≤ bt t 1 ∧ bt t 1 ≤ 56)) : isSq t = false ∧ sqOf t = 0 := by
  have e : isSq t = false := by unfold isSq; exact decide_eq_false h
  exact ⟨e, by unfold sqOf; rw [e]; rfl⟩
/-- how far a square's name is read. -/
def pR (t : ByteArray) (k : Nat) (X Y : Int) : Prop :=
  (k = 0 ∧ X = 0 ∧ Y = 0) ∨ (k = 1 ∧ 97 ≤ bt t 0 ∧ bt t 0 ≤ 104 ∧ X = bt t 0 - 97 ∧ Y = 0) ∨
  (k = 2 ∧ 97 ≤ bt t 0 ∧ bt t 0 ≤ 104 ∧ 49 ≤ bt t 1 ∧ bt t 1 ≤ 56 ∧ X = bt t 0 - 97 ∧ Y = bt t 1 - 49)
/-- a square's name. -/
def nameB (s : Int) : ByteArray := if 0 ≤ s ∧ s < 64 then ⟨#[UInt8.ofNat (97 + (s % 8).toNat), UInt8.ofNat (49 + (s / 8).toNat)]⟩ else ⟨#[45]⟩
theorem nameB_in {s : Int} (h0 : 0 ≤ s) (h1 : s < 64) : nameB s = ⟨#[UInt8.ofNat (97 + (s % 8).toNat), UInt8.ofNat (49 + (s / 8).toNat)]⟩ := by unfold nameB; rw [if_pos ⟨h0, h1⟩]
theorem nameB_out {s : Int} (h : ¬ (0 ≤ s ∧ s < 64)) : nameB s = ⟨#[45]⟩ := by unfold nameB; rw [if_neg h]
theorem encode_ascii {a : Int} (h0 : 0 ≤ a) (h1 : a < 128) : Utf8.encode a = ⟨#[UInt8.ofNat a.toNat]⟩ := by
  have hv : Utf8.valid a = true := by unfold Utf8.valid; simp; omega
  unfold Utf8.encode
  simp only [hv, if_true]
  rw [if_pos (by omega)]
theorem ba_append (a b : Array UInt8) : (⟨a⟩ : ByteArray) ++ ⟨b⟩ = ⟨a ++ b⟩ := ByteArray.ext (by simp)
theorem runes2 {a b : Int} (h0 : 0 ≤ a) (h1 : a < 128) (h2 : 0 ≤ b) (h3 : b < 128) : runesBytes [a, b] = ⟨#[UInt8.ofNat a.toNat, UInt8.ofNat b.toNat]⟩ := by
  unfold runesBytes
  simp only [List.foldl_cons, List.foldl_nil, encode_ascii h0 h1, encode_ascii h2 h3]
  rw [show (ByteArray.empty : ByteArray) = ⟨#[]⟩ from rfl, ba_append, ba_append]
  rfl
theorem seq_t {a b : ByteArray} (h : a = b) : (a.toList == b.toList) = true := by rw [h]; exact beq_self_eq_true _
theorem seq_f {a b : ByteArray} (h : a ≠ b) : (a.toList == b.toList) = false := by
  rw [beq_eq_false_iff_ne]
  intro e
  rw [ByteArray.toList_eq, ByteArray.toList_eq] at e
  exact h (ByteArray.ext (Array.toList_inj.1 e))
def calledZ (t : ByteArray) : Int := if isSq t then sqOf t else -1
theorem name_is : ∀ k : Fin 64, isSq (nameB k.val) = true ∧ sqOf (nameB k.val) = k.val := by decide +kernel
theorem ba2 {t : ByteArray} (h : t.size = 2) : t = ⟨#[UInt8.ofNat (bt t 0).toNat, UInt8.ofNat (bt t 1).toNat]⟩ := by
  obtain ⟨⟨l⟩⟩ := t
  match l, h with
  | [a, b], _ =>
    have e : ∀ x : UInt8, UInt8.ofNat (Int.toNat ((x.toNat : Nat) : Int)) = x := fun x => by simp
    show _ = (⟨#[UInt8.ofNat (Int.toNat ((a.toNat : Nat) : Int)), UInt8.ofNat (Int.toNat ((b.toNat : Nat) : Int))]⟩ : ByteArray)
    rw [e, e]
theorem sq_named {t : ByteArray} (h : isSq t = true) : 0 ≤ sqOf t ∧ sqOf t < 64 ∧ nameB (sqOf t) = t := by
  have h' : t.size = 2 ∧ 97 ≤ bt t 0 ∧ bt t 0 ≤ 104 ∧ 49 ≤ bt t 1 ∧ bt t 1 ≤ 56 := by unfold isSq at h; exact of_decide_eq_true h
  obtain ⟨_, e⟩ := isSq_yes h'
  have h0 : 0 ≤ sqOf t := by rw [e]; omega
  have h1 : sqOf t < 64 := by rw [e]; omega
  refine ⟨h0, h1, ?_⟩
  rw [nameB_in h0 h1]
  have e0 : 97 + (sqOf t % 8).toNat = (bt t 0).toNat := by rw [e]; omega
  have e1 : 49 + (sqOf t / 8).toNat = (bt t 1).toNat := by rw [e]; omega
  rw [e0, e1]
  exact (ba2 h'.1).symm
theorem name_hit {t : ByteArray} {k : Int} (h0 : 0 ≤ k) (h1 : k < 64) (h : nameB k = t) : isSq t = true ∧ sqOf t = k := by
  have := name_is ⟨k.toNat, by omega⟩
  simp only [show ((k.toNat : Nat) : Int) = k by omega] at this
  rw [← h]; exact this
theorem called_hit {t : ByteArray} {k : Int} (h0 : 0 ≤ k) (h1 : k < 64) (h : nameB k = t) : calledZ t = k := by
  obtain ⟨a, b⟩ := name_hit h0 h1 h
  unfold calledZ; rw [a]; simpa using b
theorem called_none {t : ByteArray} (h : ∀ j : Nat, j < 64 → nameB j ≠ t) : calledZ t = -1 := by
  unfold calledZ
  by_cases hs : isSq t = true
  · obtain ⟨h0, h1, h2⟩ := sq_named hs
    exact absurd (by rw [show ((sqOf t).toNat : Int) = sqOf t by omega]; exact h2) (h (sqOf t).toNat (by omega))
  · rw [if_neg hs]
def stepN (s f r : Int) : Int := if stepZ s f r < 0 then 0 else stepZ s f r
def flipZ (s : Int) : Int := if 0 ≤ s ∧ s < 64 then 8 * (7 - s / 8) + s % 8 else -1
theorem flipZ_in {s : Int} (h0 : 0 ≤ s) (h1 : s < 64) : flipZ s = 8 * (7 - s / 8) + s % 8 := by unfold flipZ; rw [if_pos ⟨h0, h1⟩]
theorem flipZ_out {s : Int} (h : ¬ (0 ≤ s ∧ s < 64)) : flipZ s = -1 := by unfold flipZ; rw [if_neg h]
def darkB (s : Int) : Bool := decide ((0 ≤ s ∧ s < 64) ∧ (s % 8 + s / 8) % 2 = 0)
theorem flip_bits : ∀ k : Fin 64, bits BinOp.xor IntKind.i64 (k.val : Int) 56 = 8 * (7 - (k.val : Int) / 8) + (k.val : Int) % 8 := by decide +kernel
theorem distZ_le {a b n : Int} : distZ a b ≤ n ↔ a - b ≤ n ∧ b - a ≤ n := by unfold distZ; split <;> omega
theorem farZ_sym (a b : Int) : farZ b a = farZ a b := by
  have d : ∀ x y, distZ x y = distZ y x := fun x y => by unfold distZ; split <;> split <;> omega
  unfold farZ
  rw [d (b % 8), d (b / 8)]
  by_cases ha : 0 ≤ a ∧ a < 64 <;> by_cases hb : 0 ≤ b ∧ b < 64 <;> simp [ha, hb]
theorem farZ_bd (a b : Int) : -1 ≤ farZ a b ∧ farZ a b < 8 := by
  unfold farZ
  split
  · rename_i h
    have h1 : distZ (a % 8) (b % 8) ≤ 7 := distZ_le.2 (by omega)
    have h2 : distZ (a / 8) (b / 8) ≤ 7 := distZ_le.2 (by omega)
    have h3 : 0 ≤ distZ (a % 8) (b % 8) := by unfold distZ; split <;> omega
    have h4 : 0 ≤ distZ (a / 8) (b / 8) := by unfold distZ; split <;> omega
    split <;> omega
  · omega
theorem farZ_pos {a b : Int} (h : 0 ≤ farZ a b) : (0 ≤ a ∧ a < 64) ∧ (0 ≤ b ∧ b < 64) := by
  unfold farZ at h; split at h
  · assumption
  · omega
theorem farZ_le {a b n : Int} (h0 : 0 ≤ a) (h1 : a < 64) (h2 : 0 ≤ b) (h3 : b < 64) : farZ a b ≤ n ↔ distZ (a % 8) (b % 8) ≤ n ∧ distZ (a / 8) (b / 8) ≤ n := by
  rw [farZ_in h0 h1 h2 h3]; split <;> omega
theorem farZ_tri {a b c : Int} (h : 0 ≤ farZ a c) (h' : 0 ≤ farZ c b) : farZ a b ≤ farZ a c + farZ c b := by
  obtain ⟨⟨a0, a1⟩, c0, c1⟩ := farZ_pos h
  obtain ⟨_, b0, b1⟩ := farZ_pos h'
  have e1 := (farZ_le (n := farZ a c) a0 a1 c0 c1).1 (Int.le_refl _)
  have e2 := (farZ_le (n := farZ c b) c0 c1 b0 b1).1 (Int.le_refl _)
  simp only [distZ_le] at e1 e2
  exact (farZ_le a0 a1 b0 b1).2 ⟨distZ_le.2 (by omega), distZ_le.2 (by omega)⟩
theorem dark_flip0 : ∀ k : Fin 64, darkB (flipZ k.val) = !darkB k.val := by decide +kernel
theorem dark_step0 : ∀ k : Fin 64, stepZ k.val 1 0 < 0 ∨ (0 ≤ stepZ k.val 1 0 ∧ darkB (stepZ k.val 1 0) = !darkB k.val) := by decide +kernel
theorem dark_flip {s : Int} (h0 : 0 ≤ s) (h1 : s < 64) : darkB (flipZ s) = !darkB s := by
  have h := dark_flip0 ⟨s.toNat, by omega⟩
  simp only [show ((s.toNat : Nat) : Int) = s by omega] at h; exact h
theorem dark_step {s : Int} (h0 : 0 ≤ s) (h1 : s < 64) : stepZ s 1 0 < 0 ∨ (0 ≤ stepZ s 1 0 ∧ darkB (stepZ s 1 0) = !darkB s) := by
  have h := dark_step0 ⟨s.toNat, by omega⟩
  simp only [show ((s.toNat : Nat) : Int) = s by omega] at h; exact h
end Go.Proofs.Ytpjocgebnodnoaa
