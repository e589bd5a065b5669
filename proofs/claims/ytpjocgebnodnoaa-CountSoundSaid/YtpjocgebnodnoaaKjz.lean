import Derived.Test.YtpjocgebnodnoaaKiz
import Derived.Test.YtpjocgebnodnoaaKbz
namespace Go.Proofs.Ytpjocgebnodnoaa
open Go.RowKit
set_option linter.unusedVariables false
set_option linter.unusedSimpArgs false
set_option maxRecDepth 100000
def endZ (t : Int) : Int := if t = 1 then 0 else 7
def formedZ (b : List Int) (t f o p : Int) : Bool := (sideZ (nt b f.toNat 0) == t) && ((sideZ (nt b o.toNat 0) != t) && (if pawnB b f = true ∧ o / 8 = endZ t then decide (2 ≤ p ∧ p ≤ 5) else decide (p = 0)))
def passedZ (b : List Int) (t e : Int) : Int :=
  if e < 0 ∨ 63 < e then -1
  else if t = 0 ∧ e / 8 = 5 ∧ nt b e.toNat 0 = 0 ∧ nt b (e + 8).toNat 0 = 0 ∧ nt b (e - 8).toNat 0 = -1 then e - 8
  else if t = 1 ∧ e / 8 = 2 ∧ nt b e.toNat 0 = 0 ∧ nt b (e - 8).toNat 0 = 0 ∧ nt b (e + 8).toNat 0 = 1 then e + 8 else -1
def takesZ (b : List Int) (t e f o : Int) : Int := if nt b o.toNat 0 ≠ 0 then o else if pawnB b f = true ∧ 0 ≤ e ∧ o = e ∧ o % 8 ≠ f % 8 then passedZ b t e else -1
def rightZ (b : List Int) (c f o : Int) : Int :=
  if hasZ c 1 = true ∧ f = 4 ∧ o = 6 ∧ nt b 4 0 = 6 ∧ nt b 5 0 = 0 ∧ nt b 6 0 = 0 then 1
  else if hasZ c 2 = true ∧ f = 4 ∧ o = 2 ∧ nt b 4 0 = 6 ∧ nt b 1 0 = 0 ∧ nt b 2 0 = 0 ∧ nt b 3 0 = 0 then 2
  else if hasZ c 4 = true ∧ f = 60 ∧ o = 62 ∧ nt b 60 0 = -6 ∧ nt b 61 0 = 0 ∧ nt b 62 0 = 0 then 4
  else if hasZ c 8 = true ∧ f = 60 ∧ o = 58 ∧ nt b 60 0 = -6 ∧ nt b 57 0 = 0 ∧ nt b 58 0 = 0 ∧ nt b 59 0 = 0 then 8 else 0
def goodZ (b : List Int) (t c e f o p : Int) : Bool := formedZ b t f o p && (if pawnB b f = true then pawnR b t f o (takesZ b t e f o) (raysR (nt b f.toNat 0) f) else (hitsZ b f o || decide (rightZ b c f o > 0)))
def ksZ : Nat → Nat | 0 => 4 | 1 => 4 | 2 => 60 | _ => 60
def rsZ : Nat → Nat | 0 => 7 | 1 => 0 | 2 => 63 | _ => 56
def kmZ : Nat → Int | 0 => 6 | 1 => 6 | 2 => -6 | _ => -6
def rmZ : Nat → Int | 0 => 4 | 1 => 4 | 2 => -4 | _ => -4
structure PosI (b : List Int) (t c e : Int) : Prop where
  b8 : B8 b
  wr : wrongZ b = 0
  tt : t = 0 ∨ t = 1
  cc : 0 ≤ c ∧ c ≤ 15
  ee : -1 ≤ e ∧ e ≤ 63
  bk : ∀ j, j < 4 → hasZ c ((2 ^ j : Nat) : Int) = true → nt b (ksZ j) 0 = kmZ j ∧ nt b (rsZ j) 0 = rmZ j
  ck : checkZ b (1 - t) = false
  pr : ∀ s, (s = 0 ∨ s = 1) → (manyZ b 1 s : Int) + promZ b s ≤ 8
  mt : ∀ s, (s = 0 ∨ s = 1) → MI b s
theorem PosI.ok {b : List Int} {t c e : Int} (h : PosI b t c e) : okB b = true := wrong_ok h.wr
theorem b8_set {b : List Int} (h : B8 b) (i : Nat) {v : Int} (h0 : -128 ≤ v) (h1 : v ≤ 127) : B8 (b.set i v) := by
  refine ⟨by rw [List.length_set]; exact h.1, fun j => ?_⟩
  by_cases e : i = j
  · subst e
    by_cases hi : i < b.length
    · rw [show (b.set i v).getD i 0 = v from ntA_eq hi]; exact ⟨h0, h1⟩
    · rw [List.getD_eq_getElem?_getD, List.getElem?_eq_none (by rw [List.length_set]; omega)]; decide
  · rw [show (b.set i v).getD j 0 = nt b j 0 from ntA_ne e]; exact h.2 j
theorem ok_set {b : List Int} (h : okB b = true) (hb : b.length = 64) (i : Nat) {v : Int} (hv : -6 ≤ v ∧ v ≤ 6) : okB (b.set i v) = true := by
  refine okB_yes fun j hj => ?_
  by_cases e : i = j
  · subst e
    rw [show (b.set i v).getD i 0 = v from ntA_eq (by omega)]
    by_cases hz : v = 0
    · exact .inr hz
    · exact .inl (by unfold manB; exact decide_eq_true ⟨hz, hv.1, hv.2⟩)
  · rw [show (b.set i v).getD j 0 = b.getD j 0 from ntA_ne e]; exact okB_at h j hj
theorem wrong_of {b : List Int} (ho : okB b = true) (k0 : manyZ b 6 0 = 1) (k1 : manyZ b 6 1 = 1) (hr : ∀ i, i < 64 → kindZ (nt b i 0) = 1 → ¬ ((i : Int) / 8 = 0 ∨ (i : Int) / 8 = 7)) (m0 : manyZ b 0 0 ≤ 16) (m1 : manyZ b 0 1 ≤ 16) : wrongZ b = 0 := by
  unfold wrongZ
  rw [if_neg (by rw [ho]; decide), if_neg (by omega), if_neg (by rw [rimB_no fun i hi h => hr i hi h.1 h.2]; decide), if_neg (by omega)]
theorem wrong_is {b : List Int} (h : wrongZ b = 0) : okB b = true ∧ manyZ b 6 0 = 1 ∧ manyZ b 6 1 = 1 ∧ (∀ i, i < 64 → kindZ (nt b i 0) = 1 → ¬ ((i : Int) / 8 = 0 ∨ (i : Int) / 8 = 7)) ∧ manyZ b 0 0 ≤ 16 ∧ manyZ b 0 1 ≤ 16 := by
  have ho := wrong_ok h
  unfold wrongZ at h
  rw [if_neg (by rw [ho]; decide)] at h
  by_cases h1 : manyZ b 6 0 ≠ 1 ∨ manyZ b 6 1 ≠ 1
  · rw [if_pos h1] at h; cases h
  · rw [if_neg h1] at h
    by_cases h2 : rimB b = true
    · rw [if_pos h2] at h; cases h
    · rw [if_neg h2] at h
      by_cases h3 : 16 < manyZ b 0 0 ∨ 16 < manyZ b 0 1
      · rw [if_pos h3] at h; cases h
      · exact ⟨ho, by omega, by omega, fun i hi hk hr => h2 (rimB_yes i hi ⟨hk, hr⟩), by omega, by omega⟩
theorem king_one {b : List Int} {s : Int} (hs : s = 0 ∨ s = 1) (hw : wrongZ b = 0) {o : Int} (h0 : 0 ≤ o) (h1 : o < 64) (hk : nt b o.toNat 0 = sg s 6) : kingS b s = o := by
  obtain ⟨_, k0, k1, _⟩ := wrong_is hw
  have hl : (whereZ b (sg s 6)).length = 1 := by
    rw [whereZ_len, where_many b (by omega) (by omega) hs]; rcases hs with rfl | rfl <;> assumption
  have hm : o ∈ whereZ b (sg s 6) := where_mem.2 ⟨h0, h1, hk⟩
  unfold kingS
  rw [if_neg (by omega)]
  match hw : whereZ b (sg s 6), hl, hm with
  | [y], _, hm => rw [List.mem_singleton] at hm; rw [hm]; rfl
theorem no_king {b : List Int} {t c e f o : Int} (h : PosI b t c e) (hf0 : 0 ≤ f) (hf1 : f < 64) (ho0 : 0 ≤ o) (ho1 : o < 64) (hs : sideZ (nt b f.toNat 0) = t) (hh : hitsZ b f o = true) : nt b o.toNat 0 ≠ sg (1 - t) 6 := by
  intro hk
  have ht : 1 - t = 0 ∨ 1 - t = 1 := by rcases h.tt with rfl | rfl <;> simp
  have h1 := king_one ht h.wr ho0 ho1 hk
  have := check_of (b := b) (side := 1 - t) hf0 hf1 h1.symm ho0 (by rw [hs]; omega) hh
  rw [h.ck] at this; cases this
def rayT (m : Int) (q : Int → Int → Bool) : Bool := (List.range 64).all fun f => (raysR m (f : Int)).all fun r => r.all fun y => q (f : Int) y
theorem rayT_at {m : Int} {q : Int → Int → Bool} (h : rayT m q = true) {f o : Int} (h0 : 0 ≤ f) (h1 : f < 64) {b : List Int} (hm : nt b f.toNat 0 = m) (hh : hitsZ b f o = true) : q f o = true := by
  unfold hitsZ at hh
  rw [hm] at hh
  obtain ⟨r, hr, ho⟩ := List.any_eq_true.1 hh
  have hin : o ∈ r := by
    have sub : ∀ l : List Int, o ∈ reach b l → o ∈ l := by
      intro l
      induction l with
      | nil => intro h; exact h
      | cons x l ih =>
        intro h
        rw [reach] at h
        rcases List.mem_cons.1 h with h | h
        · rw [h]; exact List.mem_cons_self ..
        · split at h
          · exact List.mem_cons_of_mem _ (ih h)
          · cases h
    unfold onRay at ho
    exact sub r (List.contains_iff_mem.1 ho)
  have a := List.all_eq_true.1 h f.toNat (List.mem_range.2 (by omega))
  rw [show ((f.toNat : Nat) : Int) = f by omega] at a
  exact List.all_eq_true.1 (List.all_eq_true.1 a r hr) o hin
theorem bis_p : rayT 3 (fun f y => darkF true y == darkF true f) = true := by decide +kernel
theorem bis_m : rayT (-3) (fun f y => darkF true y == darkF true f) = true := by decide +kernel
def diagB (d f y : Int) : Bool := decide (y / 8 = f / 8 + d ∧ (y % 8 = f % 8 + 1 ∨ y % 8 + 1 = f % 8))
theorem paw_p : rayT 1 (diagB 1) = true := by decide +kernel
theorem paw_m : rayT (-1) (diagB (-1)) = true := by decide +kernel
theorem headHit {b : List Int} {f o : Int} (h : (raysR (nt b f.toNat 0) f).any (headIs o) = true) : hitsZ b f o = true := by
  obtain ⟨r, hr, ho⟩ := List.any_eq_true.1 h
  refine List.any_eq_true.2 ⟨r, hr, ?_⟩
  have hne : r ≠ [] := by
    intro e
    have := (List.mem_filter.1 hr).2
    rw [e] at this; cases this
  cases r with
  | nil => exact absurd rfl hne
  | cons x l =>
    rw [onRay_cons]
    unfold headIs at ho
    have : x = o := by simpa [nt] using ho
    rw [this, beq_self_eq_true, Bool.true_or]
def lostL : List Int := [0, 1, 2, 3, 4, 8, 12]
theorem lost_in (s : Int) : lostZ s ∈ lostL := by
  unfold lostZ i_alfilref09_lost.f; (repeat' split) <;> decide
def castV (c lf lo : Int) : Nat → Int
  | 0 => 0
  | j + 1 => castV c lf lo j + (if hasZ c ((2 ^ j : Nat) : Int) = true ∧ keepZ lf ((2 ^ j : Nat) : Int) = true ∧ keepZ lo ((2 ^ j : Nat) : Int) = true then ((2 ^ j : Nat) : Int) else 0)
theorem castV_is (c f o : Int) : ∀ j, castJ c f o j = castV c (lostZ f) (lostZ o) j
  | 0 => rfl
  | j + 1 => by rw [castJ, castV, castV_is c f o j]
theorem cast_all : ((List.range 16).all fun c => lostL.all fun lf => lostL.all fun lo => (List.range 4).all fun j => !(hasZ (castV (c : Int) lf lo 4) ((2 ^ j : Nat) : Int)) || (hasZ (c : Int) ((2 ^ j : Nat) : Int) && keepZ lf ((2 ^ j : Nat) : Int) && keepZ lo ((2 ^ j : Nat) : Int))) = true := by decide +kernel
theorem cast_has {c f o : Int} (hc : 0 ≤ c ∧ c ≤ 15) {j : Nat} (hj : j < 4) (h : hasZ (castJ c f o 4) ((2 ^ j : Nat) : Int) = true) : hasZ c ((2 ^ j : Nat) : Int) = true ∧ keepZ (lostZ f) ((2 ^ j : Nat) : Int) = true ∧ keepZ (lostZ o) ((2 ^ j : Nat) : Int) = true := by
  have a := List.all_eq_true.1 cast_all c.toNat (List.mem_range.2 (by omega))
  have a := List.all_eq_true.1 a _ (lost_in f)
  have a := List.all_eq_true.1 a _ (lost_in o)
  have a := List.all_eq_true.1 a j (List.mem_range.2 hj)
  rw [show ((c.toNat : Nat) : Int) = c by omega, ← castV_is, h, Bool.not_true, Bool.false_or, Bool.and_eq_true, Bool.and_eq_true] at a
  exact ⟨a.1.1, a.1.2, a.2⟩
theorem keep_all : ((List.range 64).all fun f => (List.range 4).all fun j => !(keepZ (lostZ (f : Int)) ((2 ^ j : Nat) : Int)) || (f != ksZ j && f != rsZ j)) = true := by decide +kernel
theorem keep_is {f : Int} (h0 : 0 ≤ f) (h1 : f < 64) {j : Nat} (hj : j < 4) (h : keepZ (lostZ f) ((2 ^ j : Nat) : Int) = true) : f.toNat ≠ ksZ j ∧ f.toNat ≠ rsZ j := by
  have a := List.all_eq_true.1 keep_all f.toNat (List.mem_range.2 (by omega))
  have a := List.all_eq_true.1 a j (List.mem_range.2 hj)
  rw [show ((f.toNat : Nat) : Int) = f by omega, h, Bool.not_true, Bool.false_or, Bool.and_eq_true] at a
  exact ⟨by simpa using a.1, by simpa using a.2⟩
end Go.Proofs.Ytpjocgebnodnoaa
