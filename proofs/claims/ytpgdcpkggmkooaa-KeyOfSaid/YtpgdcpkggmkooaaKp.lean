/- Plain words on keys. -/
import Derived.Test.YtpgdcpkggmkooaaBp
import Derived.Laws.BitsAllLaws
namespace Go.Proofs.Ytpgdcpkggmkooaa
open Go.RowKit
def w64 (x : Int) : Int := IntKind.wrap .u64 x
def xr (x y : Int) : Int := bits BinOp.xor IntKind.u64 x y
def mix1 (x : Int) : Int := w64 (xr x (x / 1073741824) * 13787848793156543929)
def mix2 (x : Int) : Int := w64 (xr x (x / 134217728) * 10723151780598845931)
def mix3 (x : Int) : Int := xr x (x / 2147483648)
def mixZ (n : Int) : Int := mix3 (mix2 (mix1 (w64 (w64 (n * 11400714819323198485) + 11400714819323198485))))
theorem w64_mod (x : Int) : w64 x = x % 18446744073709551616 := by
  unfold w64
  simp [IntKind.wrap, IntKind.bits, IntKind.signed]
theorem w64_b (x : Int) : 0 ≤ w64 x ∧ w64 x < 18446744073709551616 := by rw [w64_mod]; omega
theorem u64_quo (d : Int) (hd : 0 < d) (x : Int) : IntKind.u64.wrap ((IntKind.u64.wrap x).tdiv d) = IntKind.u64.wrap x / d := by
  have h := w64_b x
  have e := w64_mod (w64 x / d)
  unfold w64 at *
  obtain ⟨h0, h1⟩ := h
  rw [Int.tdiv_eq_ediv_of_nonneg h0, e]
  have h2 : 0 ≤ IntKind.u64.wrap x / d := Int.ediv_nonneg h0 (by omega)
  have h3 : IntKind.u64.wrap x / d ≤ IntKind.u64.wrap x := Int.ediv_le_self d h0
  exact Int.emod_eq_of_lt h2 (by omega)
theorem mix_in (n : Int) : w64 (w64 (n + 1) * 11400714819323198485) = w64 (w64 (n * 11400714819323198485) + 11400714819323198485) := by
  rw [w64_mod, w64_mod, w64_mod, w64_mod]; omega
/-- a man's number on a square. -/
def manK (s : Nat) (m : Int) : Int := if m = 0 then 0 else mixZ (w64 (16 * s + m + 8))
/-- the right r's number, of a sum of rights c. -/
def rightK (c : Int) (r : Int) : Int := if bits BinOp.and .i64 c r = 0 then 0 else mixZ (1032 + r)
def turnKy (t : Int) : Int := if t = 1 then mixZ 1024 else 0
def epK (e : Int) : Int := if -1 < e then mixZ (1056 + e) else 0
def U64 (x : Int) : Prop := 0 ≤ x ∧ x < 18446744073709551616
theorem xr_nat {x y : Int} (hx : U64 x) (hy : U64 y) : xr x y = ((x.toNat ^^^ y.toNat : Nat) : Int) := u64_xor x y hx.1 hx.2 hy.1 hy.2
theorem xr_U {x y : Int} (hx : U64 x) (hy : U64 y) : U64 (xr x y) := by
  rw [xr_nat hx hy]
  have h1 : x.toNat < 2 ^ 64 := by have := hx.2; omega
  have h2 : y.toNat < 2 ^ 64 := by have := hy.2; omega
  have := Nat.xor_lt_two_pow h1 h2
  exact ⟨by omega, by omega⟩
theorem U64_zero : U64 0 := ⟨by omega, by omega⟩
theorem xr_zero {x : Int} (hx : U64 x) : xr x 0 = x := by
  rw [xr_nat hx U64_zero]; have := hx.1; simp; omega
theorem xr_comm {x y : Int} (hx : U64 x) (hy : U64 y) : xr x y = xr y x := by rw [xr_nat hx hy, xr_nat hy hx, Nat.xor_comm]
theorem xr_self {x : Int} (hx : U64 x) : xr x x = 0 := by rw [xr_nat hx hx]; simp
theorem xr_toNat {x y : Int} (hx : U64 x) (hy : U64 y) : (xr x y).toNat = x.toNat ^^^ y.toNat := by rw [xr_nat hx hy]; rfl
theorem xr_assoc {x y z : Int} (hx : U64 x) (hy : U64 y) (hz : U64 z) : xr (xr x y) z = xr x (xr y z) := by
  rw [xr_nat (xr_U hx hy) hz, xr_nat hx (xr_U hy hz), xr_toNat hx hy, xr_toNat hy hz, Nat.xor_assoc]
theorem w64_U (x : Int) : U64 (w64 x) := w64_b x
theorem div_U {x d : Int} (hx : U64 x) (hd : 0 < d) : U64 (x / d) := ⟨Int.ediv_nonneg hx.1 (by omega), Int.lt_of_le_of_lt (Int.ediv_le_self d hx.1) hx.2⟩
theorem mix_U (n : Int) : U64 (mixZ n) := xr_U (w64_U _) (div_U (w64_U _) (by omega))
theorem man_U (s : Nat) (m : Int) : U64 (manK s m) := by unfold manK; split; exact U64_zero; exact mix_U _
theorem right_U (c r : Int) : U64 (rightK c r) := by unfold rightK; split; exact U64_zero; exact mix_U _
theorem turn_U (t : Int) : U64 (turnKy t) := by unfold turnKy; split; exact mix_U _; exact U64_zero
theorem ep_U (e : Int) : U64 (epK e) := by unfold epK; split; exact mix_U _; exact U64_zero
/-- the key of who is to move, and of the first j rights. -/
def restP (t c : Int) : Nat → Int
  | 0 => turnKy t
  | j + 1 => xr (restP t c j) (rightK c (2 ^ j : Nat))
theorem restP_U (t c : Int) : ∀ j, U64 (restP t c j)
  | 0 => turn_U t
  | j + 1 => xr_U (restP_U t c j) (right_U _ _)
theorem restP_no (t c : Int) (j : Nat) (h : bits BinOp.and .i64 c (2 ^ j : Nat) = 0) : restP t c (j + 1) = restP t c j := by
  show xr _ _ = _
  unfold rightK
  rw [if_pos h, xr_zero (restP_U t c j)]
theorem restP_yes (t c : Int) (j : Nat) (h : bits BinOp.and .i64 c (2 ^ j : Nat) ≠ 0) : restP t c (j + 1) = xr (restP t c j) (mixZ (1032 + (2 ^ j : Nat))) := by
  show xr _ _ = _
  unfold rightK
  rw [if_neg h]
def restK (t c e : Int) : Int := xr (restP t c 4) (epK e)
theorem rest_U (t c e : Int) : U64 (restK t c e) := xr_U (restP_U t c 4) (ep_U e)
theorem restK_no {t c e : Int} (h : ¬ -1 < e) : restK t c e = restP t c 4 := by unfold restK epK; rw [if_neg h, xr_zero (restP_U t c 4)]
theorem restK_yes {t c e : Int} (h : -1 < e) : restK t c e = xr (restP t c 4) (mixZ (1056 + e)) := by unfold restK epK; rw [if_pos h]
/-- k with the men from the square s on. -/
def menK (k : Int) : List Int → Nat → Int
  | [], _ => k
  | m :: l, s => menK (xr k (manK s m)) l (s + 1)
def keyZ (l : List Int) (t c e : Int) : Int := menK (restK t c e) l 0
theorem key_wakes : (mixZ 0 = 16294208416658607535) ∧ keyZ firstL 0 15 (-1) ≠ keyZ firstL 1 15 (-1) := by decide +kernel
theorem menK_U : ∀ (l : List Int) (k : Int) (s : Nat), U64 k → U64 (menK k l s)
  | [], _, _, h => h
  | _ :: l, _, _, h => menK_U l _ _ (xr_U h (man_U _ _))
/-- the key of the first j squares' men, and of the rest. -/
theorem menK_take (k : Int) (l : List Int) : ∀ j, j < l.length → menK k (l.take (j + 1)) 0 = xr (menK k (l.take j) 0) (manK j (l.getD j 0)) := by
  have app : ∀ (a b : List Int) (k : Int) (s : Nat), menK k (a ++ b) s = menK (menK k a s) b (s + a.length) := by
    intro a
    induction a with
    | nil => intro b k s; simp [menK]
    | cons x a ih => intro b k s; simp only [List.cons_append, menK, ih, List.length_cons]; congr 1; omega
  intro j hj
  rw [List.take_succ_eq_append_getElem hj, app, Nat.zero_add, List.length_take, Nat.min_eq_left (by omega)]
  simp [menK, List.getElem?_eq_getElem hj]
theorem U64_ext {x y : Int} (hx : U64 x) (hy : U64 y) (h : x.toNat = y.toNat) : x = y := by have := hx.1; have := hy.1; omega
theorem menK_xr : ∀ (l : List Int) (k : Int) (s : Nat), U64 k → menK k l s = xr k (menK 0 l s)
  | [], k, s, hk => (xr_zero hk).symm
  | m :: l, k, s, hk => by
    have h0 : xr 0 (manK s m) = manK s m := by rw [xr_comm U64_zero (man_U _ _), xr_zero (man_U _ _)]
    simp only [menK]
    rw [menK_xr l (xr k (manK s m)) (s + 1) (xr_U hk (man_U _ _)), h0, menK_xr l (manK s m) (s + 1) (man_U _ _), xr_assoc hk (man_U _ _) (menK_U _ _ _ U64_zero)]
/-- the numbers of the first j squares' men. -/
def mj (l : List Int) (j : Nat) : Int := menK 0 (l.take j) 0
theorem mj_U (l : List Int) (j : Nat) : U64 (mj l j) := menK_U _ _ _ U64_zero
theorem mj_zero (l : List Int) : mj l 0 = 0 := rfl
theorem mj_suc (l : List Int) (j : Nat) (h : j < l.length) : mj l (j + 1) = xr (mj l j) (manK j (l.getD j 0)) := menK_take 0 l j h
theorem key_mj {l : List Int} (hl : l.length = 64) (t c e : Int) : keyZ l t c e = xr (restK t c e) (mj l 64) := by
  unfold keyZ mj
  rw [menK_xr _ _ _ (rest_U t c e), List.take_of_length_le (by omega)]
/-- the program's key of another position. -/
def bhZ (k : Int) (l l' : List Int) (r r' : Int) : Int := xr (xr (xr k (xr (mj l 64) (mj l' 64))) r) r'
theorem xr4 {a b c d : Int} (ha : U64 a) (hb : U64 b) (hc : U64 c) (hd : U64 d) : xr (xr a b) (xr c d) = xr (xr a c) (xr b d) := by
  refine U64_ext (xr_U (xr_U ha hb) (xr_U hc hd)) (xr_U (xr_U ha hc) (xr_U hb hd)) ?_
  simp only [xr_toNat, ha, hb, hc, hd, xr_U]
  rw [Nat.xor_assoc, Nat.xor_assoc, ← Nat.xor_assoc b.toNat, Nat.xor_comm b.toNat, Nat.xor_assoc c.toNat]
theorem bh_step {k a b m n : Int} (hk : U64 k) (ha : U64 a) (hb : U64 b) (hm : U64 m) (hn : U64 n) : xr (xr k (xr a b)) (xr m n) = xr k (xr (xr a m) (xr b n)) := by
  rw [xr_assoc hk (xr_U ha hb) (xr_U hm hn), xr4 ha hb hm hn]
theorem bh_same {k a b m : Int} (hk : U64 k) (ha : U64 a) (hb : U64 b) (hm : U64 m) : xr k (xr (xr a m) (xr b m)) = xr k (xr a b) := by
  rw [← bh_step hk ha hb hm hm, xr_self hm, xr_zero (xr_U hk (xr_U ha hb))]
theorem bh_key {l l' : List Int} (hl : l.length = 64) (hl' : l'.length = 64) (t c e t' c' e' : Int) : bhZ (keyZ l t c e) l l' (restK t c e) (restK t' c' e') = keyZ l' t' c' e' := by
  rw [key_mj hl, key_mj hl']
  unfold bhZ
  have h1 := rest_U t c e
  have h2 := rest_U t' c' e'
  have h3 := mj_U l 64
  have h4 := mj_U l' 64
  generalize restK t c e = r at *
  generalize restK t' c' e' = r' at *
  generalize mj l 64 = m at *
  generalize mj l' 64 = m' at *
  refine U64_ext (xr_U (xr_U (xr_U (xr_U h1 h3) (xr_U h3 h4)) h1) h2) (xr_U h2 h4) ?_
  have a1 := xr_U h1 h3
  have a2 := xr_U h3 h4
  have a3 := xr_U a1 a2
  rw [xr_toNat (xr_U a3 h1) h2, xr_toNat a3 h1, xr_toNat a1 a2, xr_toNat h1 h3, xr_toNat h3 h4, xr_toNat h2 h4]
  have e1 : r.toNat ^^^ m.toNat ^^^ (m.toNat ^^^ m'.toNat) = r.toNat ^^^ m'.toNat := by
    rw [Nat.xor_assoc, ← Nat.xor_assoc m.toNat, Nat.xor_self, Nat.zero_xor]
  rw [e1, Nat.xor_comm r.toNat, Nat.xor_assoc m'.toNat, Nat.xor_self, Nat.xor_zero, Nat.xor_comm]
/-- the reference's: from the men on. -/
def restQ (k t c : Int) : Nat → Int
  | 0 => xr k (turnKy t)
  | j + 1 => xr (restQ k t c j) (rightK c (2 ^ j : Nat))
theorem restQ_P {k : Int} (hk : U64 k) (t c : Int) : ∀ j, restQ k t c j = xr k (restP t c j)
  | 0 => rfl
  | j + 1 => by
    show xr (restQ k t c j) _ = xr k (xr _ _)
    rw [restQ_P hk t c j, xr_assoc hk (restP_U t c j) (right_U _ _)]
theorem restQ_U {k : Int} (hk : U64 k) (t c : Int) (j : Nat) : U64 (restQ k t c j) := by rw [restQ_P hk]; exact xr_U hk (restP_U t c j)
theorem restQ_no {k : Int} (hk : U64 k) (t c : Int) (j : Nat) (h : bits BinOp.and .i64 c (2 ^ j : Nat) = 0) : restQ k t c (j + 1) = restQ k t c j := by
  show xr _ _ = _
  unfold rightK
  rw [if_pos h, xr_zero (restQ_U hk t c j)]
theorem restQ_yes (k t c : Int) (j : Nat) (h : bits BinOp.and .i64 c (2 ^ j : Nat) ≠ 0) : restQ k t c (j + 1) = xr (restQ k t c j) (mixZ (1032 + (2 ^ j : Nat))) := by
  show xr _ _ = _
  unfold rightK
  rw [if_neg h]
theorem refKey {l : List Int} (hl : l.length = 64) (t c e : Int) : xr (restQ (mj l 64) t c 4) (epK e) = keyZ l t c e := by
  rw [restQ_P (mj_U l 64), key_mj hl]
  unfold restK
  rw [xr_assoc (mj_U l 64) (restP_U t c 4) (ep_U e), xr_comm (mj_U l 64) (xr_U (restP_U t c 4) (ep_U e))]
end Go.Proofs.Ytpgdcpkggmkooaa
