/- Plain words on keys. -/
import Derived.Test.YtndijmlflijalaaBp
import Derived.Laws.BitsAllLaws
namespace Go.Proofs.Ytndijmlflijalaa
open Go.RowKit
def w64 (x : Int) : Int := IntKind.wrap .u64 x
def xr (x y : Int) : Int := bits BinOp.xor IntKind.u64 x y
def mix1 (x : Int) : Int := w64 (xr x (x / 1073741824) * 13787848793156543929)
def mix2 (x : Int) : Int := w64 (xr x (x / 134217728) * 10723151780598845931)
def mix3 (x : Int) : Int := xr x (x / 2147483648)
def mixZ (n : Int) : Int := mix3 (mix2 (mix1 (w64 (w64 (n * 11400714819323198485) + 11400714819323198485))))
theorem w64_mod (x : Int) : w64 x = x % 18446744073709551616 := by
  unfold w64
  simp [IntKind.wrap, IntKind.bits, IntKind.signed]
theorem w64_b (x : Int) : 0 ≤ w64 x ∧ w64 x < 18446744073709551616 := by rw [w64_mod]; omega
theorem u64_quo (d : Int) (hd : 0 < d) (x : Int) : IntKind.u64.wrap ((IntKind.u64.wrap x).tdiv d) = IntKind.u64.wrap x / d := by
  have h := w64_b x
  have e := w64_mod (w64 x / d)
  unfold w64 at *
  obtain ⟨h0, h1⟩ := h
  rw [Int.tdiv_eq_ediv_of_nonneg h0, e]
  have h2 : 0 ≤ IntKind.u64.wrap x / d := Int.ediv_nonneg h0 (by omega)
  have h3 : IntKind.u64.wrap x / d ≤ IntKind.u64.wrap x := Int.ediv_le_self d h0
  exact Int.emod_eq_of_lt h2 (by omega)
theorem mix_in (n : Int) : w64 (w64 (n + 1) * 11400714819323198485) = w64 (w64 (n * 11400714819323198485) + 11400714819323198485) := by
  rw [w64_mod, w64_mod, w64_mod, w64_mod]; omega
/-- a man's number on a square. -/
def manK (s : Nat) (m : Int) : Int := if m = 0 then 0 else mixZ (w64 (16 * s + m + 8))
/-- the right r's number, of a sum of rights c. -/
def rightK (c : Int) (r : Int) : Int := if bits BinOp.and .i64 c r = 0 then 0 else mixZ (1032 + r)
def turnKy (t : Int) : Int := if t = 1 then mixZ 1024 else 0
def epK (e : Int) : Int := if -1 < e then mixZ (1056 + e) else 0
def U64 (x : Int) : Prop := 0 ≤ x ∧ x < 18446744073709551616
theorem xr_nat {x y : Int} (hx : U64 x) (hy : U64 y) : xr x y = ((x.toNat ^^^ y.toNat : Nat) : Int) := u64_xor x y hx.1 hx.2 hy.1 hy.2
theorem xr_U {x y : Int} (hx : U64 x) (hy : U64 y) : U64 (xr x y) := by
  rw [xr_nat hx hy]
  have h1 : x.toNat < 2 ^ 64 := by have := hx.2; omega
  have h2 : y.toNat < 2 ^ 64 := by have := hy.2; omega
  have := Nat.xor_lt_two_pow h1 h2
  exact ⟨by omega, by omega⟩
theorem U64_zero : U64 0 := ⟨by omega, by omega⟩
theorem xr_zero {x : Int} (hx : U64 x) : xr x 0 = x := by
  rw [xr_nat hx U64_zero]; have := hx.1; simp; omega
theorem xr_comm {x y : Int} (hx : U64 x) (hy : U64 y) : xr x y = xr y x := by rw [xr_nat hx hy, xr_nat hy hx, Nat.xor_comm]
theorem xr_self {x : Int} (hx : U64 x) : xr x x = 0 := by rw [xr_nat hx hx]; simp
theorem xr_toNat {x y : Int} (hx : U64 x) (hy : U64 y) : (xr x y).toNat = x.toNat ^^^ y.toNat := by rw [xr_nat hx hy]; rfl
theorem xr_assoc {x y z : Int} (hx : U64 x) (hy : U64 y) (hz : U64 z) : xr (xr x y) z = xr x (xr y z) := by
  rw [xr_nat (xr_U hx hy) hz, xr_nat hx (xr_U hy hz), xr_toNat hx hy, xr_toNat hy hz, Nat.xor_assoc]
theorem w64_U (x : Int) : U64 (w64 x) := w64_b x
theorem div_U {x d : Int} (hx : U64 x) (hd : 0 < d) : U64 (x / d) := ⟨Int.ediv_nonneg hx.1 (by omega), Int.lt_of_le_of_lt (Int.ediv_le_self d hx.1) hx.2⟩
theorem mix_U (n : Int) : U64 (mixZ n) := xr_U (w64_U _) (div_U (w64_U _) (by omega))
theorem man_U (s : Nat) (m : Int) : U64 (manK s m) := by unfold manK; split; exact U64_zero; exact mix_U _
theorem right_U (c r : Int) : U64 (rightK c r) := by unfold rightK; split; exact U64_zero; exact mix_U _
theorem turn_U (t : Int) : U64 (turnKy t) := by unfold turnKy; split; exact mix_U _; exact U64_zero
theorem ep_U (e : Int) : U64 (epK e) := by unfold epK; split; exact mix_U _; exact U64_zero
/-- the key of who is to move, and of the first j rights. -/
def restP (t c : Int) : Nat → Int
  | 0 => turnKy t
  | j + 1 => xr (restP t c j) (rightK c (2 ^ j : Nat))
theorem restP_U (t c : Int) : ∀ j, U64 (restP t c j)
  | 0 => turn_U t
  | j + 1 => xr_U (restP_U t c j) (right_U _ _)
theorem restP_no (t c : Int) (j : Nat) (h : bits BinOp.and .i64 c (2 ^ j : Nat) = 0) : restP t c (j + 1) = restP t c j := by
  show xr _ _ = _
  unfold rightK
  rw [if_pos h, xr_zero (restP_U t c j)]
theorem restP_yes (t c : Int) (j : Nat) (h : bits BinOp.and .i64 c (2 ^ j : Nat) ≠ 0) : restP t c (j + 1) = xr (restP t c j) (mixZ (1032 + (2 ^ j : Nat))) := by
  show xr _ _ = _
  unfold rightK
  rw [if_neg h]
def restK (t c e : Int) : Int := xr (restP t c 4) (epK e)
theorem rest_U (t c e : Int) : U64 (restK t c e) := xr_U (restP_U t c 4) (ep_U e)
theorem restK_no {t c e : Int} (h : ¬ -1 < e) : restK t c e = restP t c 4 := by unfold restK epK; rw [if_neg h, xr_zero (restP_U t c 4)]
theorem restK_yes {t c e : Int} (h : -1 < e) : restK t c e = xr (restP t c 4) (mixZ (1056 + e)) := by unfold restK epK; rw [if_pos h]
/-- k with the men from the square s on. -/
def menK (k : Int) : List Int → Nat → Int
  | [], _ => k
  | m :: l, s => menK (xr k (manK s m)) l (s + 1)
def keyZ (l : List Int) (t c e : Int) : Int := menK (restK t c e) l 0
theorem key_wakes : (mixZ 0 = 16294208416658607535) ∧ keyZ firstL 0 15 (-1) ≠ keyZ firstL 1 15 (-1) := by decide +kernel
theorem menK_U : ∀ (l : List Int) (k : Int) (s : Nat), U64 k → U64 (menK k l s)
  | [], _, _, h => h
  | _ :: l, _, _, h => menK_U l _ _ (xr_U h (man_U _ _))
/-- the key of the first j squares' men, and of the rest. -/
theorem menK_take (k : Int) (l : List Int) : ∀ j, j < l.length → menK k (l.take (j + 1)) 0 = xr (menK k (l.take j) 0) (manK j (l.getD j 0)) := by
  have app : ∀ (a b : List Int) (k : Int) (s : Nat), menK k (a ++ b) s = menK (menK k a s) b (s + a.length) := by
    intro a
    induction a with
    | nil => intro b k s; simp [menK]
    | cons x a ih => intro b k s; simp only [List.cons_append, menK, ih, List.length_cons]; congr 1; omega
  intro j hj
  rw [List.take_succ_eq_append_getElem hj, app, Nat.zero_add, List.length_take, Nat.min_eq_left (by omega)]
  simp [menK, List.getElem?_eq_getElem hj]
end Go.Proofs.Ytndijmlflijalaa
