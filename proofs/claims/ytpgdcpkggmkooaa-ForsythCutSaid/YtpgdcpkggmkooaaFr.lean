/- Boards as rows of letters, in plain words: writing, and reading what was written. -/
import Derived.Test.YtpgdcpkggmkooaaFu
import Derived.Test.YtpgdcpkggmkooaaF3w
import Derived.Test.YtpgdcpkggmkooaaF4w
import Derived.Test.YtpgdcpkggmkooaaF8w
namespace Go.Proofs.Ytpgdcpkggmkooaa
open Go.RowKit
set_option linter.unusedVariables false
set_option linter.unusedSimpArgs false
theorem sz_app (t m : ByteArray) : (t ++ m).size = t.size + m.size := by simp
theorem ba_assoc (a b c : ByteArray) : a ++ b ++ c = a ++ (b ++ c) := ByteArray.append_assoc
theorem ba_nil (a : ByteArray) : a ++ (⟨#[]⟩ : ByteArray) = a := by
  apply ByteArray.ext; simp
theorem nil_ba (x : ByteArray) : (⟨#[]⟩ : ByteArray) ++ x = x := by apply ByteArray.ext; simp
def gapT (g : Nat) : ByteArray := if 0 < g then Utf8.encode (48 + (g : Int)) else ⟨#[]⟩
theorem gap_enc : ∀ g : Fin 9, 0 < g.val → Utf8.encode (48 + (g.val : Int)) = ⟨#[UInt8.ofNat (48 + g.val)]⟩ := by decide +kernel
theorem gap_size {g : Nat} (h : g ≤ 8) : (gapT g).size ≤ 1 := by
  unfold gapT
  split
  · have := gap_enc ⟨g, by omega⟩ (by assumption)
    dsimp only at this
    rw [this]; exact Nat.le_refl 1
  · exact Nat.zero_le 1
theorem let_size {m : Int} (h : -6 ≤ m ∧ m ≤ 6) : (letterB m).size ≤ 1 := by
  have D : ∀ k : Fin 13, (letterB ((k.val : Int) - 6)).size ≤ 1 := by decide +kernel
  have := D ⟨(m + 6).toNat, by omega⟩
  dsimp only at this
  rwa [show ((m + 6).toNat : Int) - 6 = m by omega] at this
theorem let_zero : letterB 0 = ⟨#[]⟩ := by decide +kernel
/-- what is written of a rank from a file on, a gap of g before it. -/
def rowL (b : List Int) (r : Nat) : Nat → Nat → Nat → ByteArray
  | 0, f, g => gapT g
  | d + 1, f, g => if nt b (8 * r + f) 0 = 0 then rowL b r d (f + 1) (g + 1) else gapT g ++ (letterB (nt b (8 * r + f) 0) ++ rowL b r d (f + 1) 0)
def Men (b : List Int) : Prop := ∀ i, -6 ≤ nt b i 0 ∧ nt b i 0 ≤ 6
theorem row_l {b : List Int} (hb : Men b) {r : Nat} (hr : r < 8) : ∀ (d f g k : Nat) (out : ByteArray), f + d = 8 → d < k → g ≤ f → out.size ≤ 100 + 2 * f → i_forsyth_row.l0 k b r out g f = some (out ++ rowL b r d f g) := by
  intro d
  induction d with
  | zero =>
    intro f g k out hd hk hg ho
    obtain ⟨k, rfl⟩ : ∃ m, k = m + 1 := ⟨k - 1, by omega⟩
    rw [i_forsyth_row.l0, if_neg (by omega), rowL]
    have hs := gap_size (g := g) (by omega)
    unfold gapT at hs ⊢
    by_cases h : 0 < g
    · rw [if_pos h] at hs ⊢
      rw [if_pos (by omega), w64 (x := 48 + (g : Int)) (by omega) (by omega), w32 (by omega) (by omega), if_pos (by omega)]
    · rw [if_neg h, if_neg (by omega), ba_nil]
  | succ d ih =>
    intro f g k out hd hk hg ho
    obtain ⟨k, rfl⟩ : ∃ m, k = m + 1 := ⟨k - 1, by omega⟩
    have hm := hb (8 * r + f)
    rw [i_forsyth_row.l0, if_pos (by omega), at_is (by omega) (by omega) (by omega) (by omega), rowL]
    simp only [Option.bind_some]
    rw [if_pos (by omega), if_pos (by omega), show (8 * (r : Int) + f).toNat = 8 * r + f by omega]
    by_cases h0 : nt b (8 * r + f) 0 = 0
    · rw [if_pos h0, if_pos h0, w64 (x := (g : Int) + 1) (by omega) (by omega), w64 (x := (f : Int) + 1) (by omega) (by omega)]
      exact ih (f + 1) (g + 1) k out (by omega) (by omega) (by omega) (by omega)
    · rw [if_neg h0, if_neg h0, w64 (x := nt b (8 * r + f) 0) (by omega) (by omega), w64 (x := (f : Int) + 1) (by omega) (by omega)]
      have hl := let_size hm
      have hs := gap_size (g := g) (by omega)
      unfold gapT at hs ⊢
      by_cases h : 0 < g
      · rw [if_pos h] at hs ⊢
        rw [if_pos (by omega), w64 (x := 48 + (g : Int)) (by omega) (by omega), w32 (by omega) (by omega), if_pos (by omega), if_pos (by rw [sz_app]; omega)]
        have := ih (f + 1) 0 k ((out ++ Utf8.encode (48 + (g : Int))) ++ letterB (nt b (8 * r + f) 0)) (by omega) (by omega) (by omega) (by rw [sz_app, sz_app]; omega)
        rw [show ((f + 1 : Nat) : Int) = (f : Int) + 1 by omega, show ((0 : Nat) : Int) = 0 from rfl] at this
        rw [this, ba_assoc, ba_assoc]
      · rw [if_neg h, if_neg (by omega), if_pos (by omega)]
        have := ih (f + 1) 0 k (out ++ letterB (nt b (8 * r + f) 0)) (by omega) (by omega) (by omega) (by rw [sz_app]; omega)
        rw [show ((f + 1 : Nat) : Int) = (f : Int) + 1 by omega, show ((0 : Nat) : Int) = 0 from rfl] at this
        rw [this, ba_assoc, nil_ba]
def rowT (b : List Int) (r : Nat) : ByteArray := rowL b r 8 0 0
theorem row_is {b : List Int} (hb : Men b) {r : Nat} (hr : r < 8) {k : Nat} (hk : 8 < k) : i_forsyth_row.f k b r = some (rowT b r) := by
  unfold i_forsyth_row.f rowT
  have := row_l hb hr 8 0 0 k ⟨#[]⟩ (by omega) hk (by omega) (by show 0 ≤ _; omega)
  rw [show ((0 : Nat) : Int) = 0 from rfl] at this
  rw [this, nil_ba]
theorem dig_enc : ∀ g : Fin 9, 0 < g.val → (⟨#[48, 49, 50, 51, 52, 53, 54, 55, 56]⟩ : ByteArray).extract g.val (g.val + 1) = Utf8.encode (48 + (g.val : Int)) := by decide +kernel
theorem dig_gap {g : Nat} (h0 : 0 < g) (h : g ≤ 8) : (⟨#[48, 49, 50, 51, 52, 53, 54, 55, 56]⟩ : ByteArray).extract g (g + 1) = gapT g := by
  unfold gapT; rw [if_pos h0]; exact dig_enc ⟨g, by omega⟩ h0
theorem wl1 {b : List Int} (hb : Men b) {r : Nat} (hr : r < 8) (D : ByteArray) (hD : D = ⟨#[48, 49, 50, 51, 52, 53, 54, 55, 56]⟩) : ∀ (d f g k : Nat) (s : ByteArray), f + d = 8 → g ≤ f → (d = 0 → g = 0) → s.size ≤ 1000 + 2 * f →
    i_alfilref04_Write.l1 (k + d + 1) b r s g f = (if (r : Int) > 0 then i_alfilref04_Write.l0 k b ((s ++ rowL b r d f g) ++ ⟨#[47]⟩) ((r : Int) - 1) else i_alfilref04_Write.l0 k b (s ++ rowL b r d f g) ((r : Int) - 1)) := by
  intro d
  induction d with
  | zero =>
    intro f g k s hd hg hz ho
    obtain rfl := hz rfl
    rw [i_alfilref04_Write.l1, if_neg (by omega), rowL, show gapT 0 = ⟨#[]⟩ from rfl, ba_nil, w64 (x := (r : Int) - 1) (by omega) (by omega), if_pos (show s.size + 1 ≤ 9223372036854775807 by omega)]
  | succ d ih =>
    intro f g k s hd hg hz ho
    have hm := hb (8 * r + f)
    have ei : (wrap64 (wrap64 (8 * (r : Int)) + f)).toNat = 8 * r + f := by rw [w64 (x := 8 * (r : Int)) (by omega) (by omega), w64 (by omega) (by omega)]; omega
    have e0 : wrap64 (wrap64 (8 * (r : Int)) + f) = ((8 * r + f : Nat) : Int) := by rw [w64 (x := 8 * (r : Int)) (by omega) (by omega), w64 (by omega) (by omega)]; omega
    have hl := let_size hm
    rw [show k + (d + 1) + 1 = (k + d + 1) + 1 by omega, i_alfilref04_Write.l1, ← hD]
    rw [if_pos (by omega), ei, e0, if_pos (by omega), if_pos (by omega), w64 (x := nt b (8 * r + f) 0) (by omega) (by omega), w64 (x := (g : Int) + 1) (by omega) (by omega), w64 (x := (f : Int) + 1) (by omega) (by omega), rowL]
    by_cases h0 : nt b (8 * r + f) 0 = 0
    · rw [if_pos h0, if_pos h0, if_pos (by omega), h0, let_zero]
      by_cases h7 : f = 7
      · have hd0 : d = 0 := by omega
        subst hd0
        have dg := dig_gap (g := g + 1) (by omega) (by omega)
        have dz := gap_size (g := g + 1) (by omega)
        rw [if_pos (show (f : Int) = 7 by omega), w64 (x := (g : Int) + 1 + 1) (by omega) (by omega)]
        rw [if_pos (by omega), if_pos (by omega), if_pos (by omega), show ((g : Int) + 1).toNat = g + 1 by omega, show ((g : Int) + 1 + 1).toNat = g + 1 + 1 by omega, hD, dg, if_pos (by omega), ba_nil, if_pos (by rw [sz_app]; show _ + 0 ≤ _; omega)]
        have := ih (f + 1) 0 k (s ++ gapT (g + 1)) (by omega) (by omega) (fun _ => rfl) (by rw [sz_app]; omega)
        rw [show ((f + 1 : Nat) : Int) = (f : Int) + 1 by omega, show ((0 : Nat) : Int) = 0 from rfl] at this
        rw [this, rowL, rowL, show gapT 0 = ⟨#[]⟩ from rfl, ba_nil]
      · rw [if_neg (show ¬ (f : Int) = 7 by omega), ba_nil, if_pos (by show _ + 0 ≤ _; omega)]
        have := ih (f + 1) (g + 1) k s (by omega) (by omega) (fun h => by omega) (by omega)
        rw [show ((f + 1 : Nat) : Int) = (f : Int) + 1 by omega, show ((g + 1 : Nat) : Int) = (g : Int) + 1 by omega] at this
        exact this
    · rw [if_neg h0, if_neg h0]
      by_cases hg0 : 0 < g
      · have dg := dig_gap (g := g) (by omega) (by omega)
        have dz := gap_size (g := g) (by omega)
        rw [if_pos (show (g : Int) > 0 by omega), if_pos (by omega), if_pos (by omega), if_pos (by omega), Int.toNat_natCast, show ((g : Int) + 1).toNat = g + 1 by omega, hD, dg, if_pos (by omega), if_pos (by rw [sz_app]; omega)]
        have := ih (f + 1) 0 k ((s ++ gapT g) ++ letterB (nt b (8 * r + f) 0)) (by omega) (by omega) (fun _ => rfl) (by rw [sz_app, sz_app]; omega)
        rw [show ((f + 1 : Nat) : Int) = (f : Int) + 1 by omega, show ((0 : Nat) : Int) = 0 from rfl] at this
        rw [this, ba_assoc s, ba_assoc s, ba_assoc (gapT g)]
      · rw [if_neg (show ¬ (g : Int) > 0 by omega), if_pos (by omega)]
        obtain rfl : g = 0 := by omega
        have := ih (f + 1) 0 k (s ++ letterB (nt b (8 * r + f) 0)) (by omega) (by omega) (fun _ => rfl) (by rw [sz_app]; omega)
        rw [show ((f + 1 : Nat) : Int) = (f : Int) + 1 by omega] at this
        rw [this, show gapT 0 = ⟨#[]⟩ from rfl, nil_ba, ba_assoc s]
theorem rowL_size {b : List Int} (hb : Men b) (r : Nat) : ∀ d f g : Nat, f + d = 8 → g ≤ f → (rowL b r d f g).size ≤ 1 + 2 * d := by
  intro d
  induction d with
  | zero => intro f g h hg; exact gap_size (by omega)
  | succ d ih =>
    intro f g h hg
    rw [rowL]
    split
    · have := ih (f + 1) (g + 1) (by omega) (by omega); omega
    · have h1 := ih (f + 1) 0 (by omega) (by omega)
      have h2 := gap_size (g := g) (by omega)
      have h3 := let_size (hb (8 * r + f))
      rw [sz_app, sz_app]; omega
def wrT (b : List Int) : Nat → ByteArray
  | 0 => rowT b 0
  | r + 1 => rowT b (r + 1) ++ ((⟨#[47]⟩ : ByteArray) ++ wrT b r)
theorem wl0 {b : List Int} (hb : Men b) : ∀ (r k : Nat) (s : ByteArray), r < 8 → 12 * r + 20 < k → s.size ≤ 20 * (7 - r) → i_alfilref04_Write.l0 k b s r = some (s ++ wrT b r, 0) := by
  intro r
  induction r with
  | zero =>
    intro k s hr hk ho
    obtain ⟨k, rfl⟩ : ∃ m, k = m + 10 := ⟨k - 10, by omega⟩
    have := wl1 hb hr _ rfl 8 0 0 k s (by omega) (by omega) (fun h => by omega) (by omega)
    rw [show k + 10 = (k + 9) + 1 from rfl, i_alfilref04_Write.l0, if_pos (by omega)]
    rw [show k + 8 + 1 = k + 9 from rfl, show ((0 : Nat) : Int) = 0 from rfl] at this
    rw [show ((0 : Nat) : Int) = 0 from rfl, this, if_neg (by decide)]
    obtain ⟨k, rfl⟩ : ∃ m, k = m + 1 := ⟨k - 1, by omega⟩
    rw [i_alfilref04_Write.l0, if_neg (by decide)]; rfl
  | succ r ih =>
    intro k s hr hk ho
    obtain ⟨k, rfl⟩ : ∃ m, k = m + 10 := ⟨k - 10, by omega⟩
    have := wl1 hb hr _ rfl 8 0 0 k s (by omega) (by omega) (fun h => by omega) (by omega)
    rw [show k + 10 = (k + 9) + 1 from rfl, i_alfilref04_Write.l0, if_pos (by omega)]
    rw [show k + 8 + 1 = k + 9 from rfl, show ((0 : Nat) : Int) = 0 from rfl] at this
    have hsz := rowL_size hb (r + 1) 8 0 0 (by omega) (by omega)
    rw [this, if_pos (by omega), show ((r + 1 : Nat) : Int) - 1 = (r : Int) by omega, ih k _ (by omega) (by omega) (by rw [sz_app, sz_app]; show _ + 1 ≤ _; omega)]
    rw [wrT, ba_assoc, ba_assoc]; rfl
end Go.Proofs.Ytpgdcpkggmkooaa
