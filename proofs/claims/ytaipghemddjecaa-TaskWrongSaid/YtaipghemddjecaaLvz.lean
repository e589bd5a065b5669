import Derived.Test.YtaipghemddjecaaL1wz
namespace Go.Proofs.Ytaipghemddjecaa
open Go.RowKit
set_option linter.unusedVariables false
set_option linter.unusedSimpArgs false
theorem w64 {x : Int} (h0 : -9223372036854775808 ≤ x) (h1 : x < 9223372036854775808) : wrap64 x = x := by unfold wrap64; omega
def fitF (t : ByteArray) (a : Int) (u : ByteArray) : Nat → Int → Int
  | 0, n => n
  | f + 1, n => if a + n < t.size ∧ bt t (a + n).toNat = bt u n.toNat then fitF t a u f (n + 1) else n
def fitN (t : ByteArray) (a : Int) (u : ByteArray) : Int := fitF t a u u.size 0
theorem fitF_le (t : ByteArray) (a : Int) (u : ByteArray) : ∀ f n, a + n ≤ t.size → n ≤ fitF t a u f n ∧ fitF t a u f n ≤ n + f ∧ a + fitF t a u f n ≤ t.size
  | 0, n, h => ⟨Int.le_refl _, by unfold fitF; omega, h⟩
  | f + 1, n, h => by
    unfold fitF
    split
    · rename_i hc
      have := fitF_le t a u f (n + 1) (by omega)
      omega
    · omega
theorem fitN_le {t : ByteArray} {a : Int} (u : ByteArray) (h : a ≤ t.size) : 0 ≤ fitN t a u ∧ fitN t a u ≤ u.size ∧ a + fitN t a u ≤ t.size := by
  have := fitF_le t a u u.size 0 (by omega)
  unfold fitN; omega
def wdE (t : ByteArray) (a : Int) (u : ByteArray) (m : Int) : Int := if m = u.size then 0 else if a + m = t.size then 1 else 2
theorem word_l (t : ByteArray) (a : Int) (u : ByteArray) (ht : t.size ≤ 1000) (hu : u.size ≤ 1000) (h0 : 0 ≤ a) : ∀ (d : Nat) (n : Int) (k : Nat), 0 ≤ n → n + d = u.size → a + n ≤ t.size → d < k →
    i_lex_Word.l0 k t a u n = some (a + fitF t a u d n, 0, wdE t a u (fitF t a u d n)) := by
  intro d
  induction d with
  | zero =>
    intro n k hn hd ha hk
    obtain ⟨k, rfl⟩ : ∃ m, k = m + 1 := ⟨k - 1, by omega⟩
    simp only [i_lex_Word.l0]
    rw [if_neg (by omega), w64 (by omega) (by omega)]
    unfold fitF wdE
    rw [if_pos (by omega)]
    rw [show (u.size : Int) = n by omega]
  | succ d ih =>
    intro n k hn hd ha hk
    obtain ⟨k, rfl⟩ : ∃ m, k = m + 1 := ⟨k - 1, by omega⟩
    simp only [i_lex_Word.l0, fitF]
    rw [if_pos (by omega), w64 (x := a + n) (by omega) (by omega)]
    by_cases h1 : a + n < t.size
    · rw [if_neg (by omega), if_pos (by omega), if_pos h1, if_pos (by omega)]
      by_cases h2 : bt t (a + n).toNat = bt u n.toNat
      · rw [if_pos h2, if_pos ⟨h1, h2⟩, w64 (by omega) (by omega)]
        exact ih (n + 1) k (by omega) (by omega) (by omega) (by omega)
      · rw [if_neg h2, if_neg (fun h => h2 h.2)]
        unfold wdE
        rw [if_neg (by omega), if_neg (by omega)]
    · rw [if_pos (show a + n = t.size by omega), if_neg (fun h => h1 h.1)]
      unfold wdE
      rw [if_neg (by omega), if_pos (by omega), show (t.size : Int) = a + n by omega]
theorem there_t {t : ByteArray} {a : Int} (h0 : 0 ≤ a) (h1 : a ≤ t.size) : i_lex_there.f t a = some true ∧ True := by
  unfold i_lex_there.f
  rw [if_pos (by omega), decide_eq_true h1]; exact ⟨rfl, trivial⟩
theorem there_f {t : ByteArray} {a : Int} (h : ¬ (0 ≤ a ∧ a ≤ t.size)) : i_lex_there.f t a = some false ∧ True := by
  unfold i_lex_there.f
  by_cases h0 : a ≥ 0
  · rw [if_pos h0, decide_eq_false (by omega)]; exact ⟨rfl, trivial⟩
  · rw [if_neg h0]; exact ⟨rfl, trivial⟩
def wordZ (t : ByteArray) (a : Int) (u : ByteArray) : Int × Int × Int := if 0 ≤ a ∧ a ≤ t.size then (a + fitN t a u, 0, wdE t a u (fitN t a u)) else (0, 0, 5)
theorem word_is {t : ByteArray} {a : Int} {u : ByteArray} (ht : t.size ≤ 1000) (hu : u.size ≤ 1000) {k : Nat} (hk : u.size < k) : i_lex_Word.f k t a u = some (wordZ t a u) := by
  unfold i_lex_Word.f wordZ
  by_cases h : 0 ≤ a ∧ a ≤ t.size
  · rw [(there_t h.1 h.2).1, if_pos h]
    simp only [Option.bind_some, if_true]
    exact word_l t a u ht hu h.1 u.size 0 k (Int.le_refl _) (by omega) (by omega) hk
  · rw [(there_f h).1, if_neg h]; rfl
def begB (t h : ByteArray) : Bool := decide (h.size ≤ t.size) && ((t.extract 0 h.size).toList == h.toList)
theorem prefix_is (t h : ByteArray) : i_strings_HasPrefix.f t h = some (begB t h) := by
  unfold i_strings_HasPrefix.f i_stringslite_HasPrefix.f begB
  by_cases h1 : h.size ≤ t.size
  · rw [if_pos (by omega), if_pos (by omega), if_pos (by omega), decide_eq_true h1]; (try rw [Int.toNat_natCast]); rfl
  · rw [if_neg (by omega), decide_eq_false h1]; rfl
def wd (ss : List ByteArray) (i : Nat) : ByteArray := nt ss i ByteArray.empty
def badW (ss : List ByteArray) (i k : Nat) : Bool := (wd ss i).toList.isEmpty || (decide (i ≠ k) && begB (wd ss k) (wd ss i))
def apartB (ss : List ByteArray) : Bool := decide (0 < ss.length) && ((List.range ss.length).all fun i => (List.range ss.length).all fun k => !badW ss i k)
theorem apart_no {ss : List ByteArray} (i k : Nat) (hi : i < ss.length) (hk : k < ss.length) (h : badW ss i k = true) : apartB ss = false := by
  cases hb : apartB ss with
  | false => rfl
  | true =>
    unfold apartB at hb
    rw [Bool.and_eq_true, List.all_eq_true] at hb
    have := hb.2 i (List.mem_range.2 hi)
    rw [List.all_eq_true] at this
    have := this k (List.mem_range.2 hk)
    rw [h] at this
    cases this
theorem apart_yes {ss : List ByteArray} (h : ∀ i, i < ss.length → ∀ k, k < ss.length → badW ss i k = false) : apartB ss = decide (0 < ss.length) := by
  unfold apartB
  rw [show ((List.range ss.length).all fun i => (List.range ss.length).all fun k => !badW ss i k) = true from by
    rw [List.all_eq_true]
    intro i hi
    rw [List.all_eq_true]
    intro k hk
    rw [h i (List.mem_range.1 hi) k (List.mem_range.1 hk)]
    rfl]
  simp
theorem apart_at {ss : List ByteArray} (h : apartB ss = true) {i k : Nat} (hi : i < ss.length) (hk : k < ss.length) : badW ss i k = false := by
  cases hb : badW ss i k with
  | false => rfl
  | true => rw [apart_no i k hi hk hb] at h; cases h
theorem dlen (ss : List ByteArray) : decide ((ss.length : Int) > 0) = decide (0 < ss.length) := by
  by_cases h : 0 < ss.length
  · rw [decide_eq_true h, decide_eq_true (by omega)]
  · rw [decide_eq_false h, decide_eq_false (by omega)]
theorem next_bad {ss : List ByteArray} {i k : Nat} (h : ∀ q, q < k → badW ss i q = false) (h1 : badW ss i k = false) : ∀ q, q < k + 1 → badW ss i q = false := fun q hq => by
  rcases (show q < k ∨ q = k by omega) with h' | rfl
  · exact h q h'
  · exact h1
theorem apart_l (ss : List ByteArray) (hn : ss.length ≤ 1000) : ∀ M : Nat,
    (∀ (i k : Nat), i ≤ ss.length → (ss.length - i) * (ss.length + 2) ≤ M → M < k → (∀ j, j < i → ∀ q, q < ss.length → badW ss j q = false) → i_lex_apart.l0 k ss i = some (apartB ss)) ∧
    (∀ (i x k : Nat), i < ss.length → x ≤ ss.length → (ss.length - (i + 1)) * (ss.length + 2) + (ss.length - x) + 1 ≤ M → M < k → (∀ j, j < i → ∀ q, q < ss.length → badW ss j q = false) → (∀ q, q < x → badW ss i q = false) → i_lex_apart.l1 k ss i x = some (apartB ss)) := by
  intro M
  induction M with
  | zero =>
    refine ⟨fun i k hi hM hk hp => ?_, fun i x k hi hx hM => by omega⟩
    obtain ⟨k, rfl⟩ : ∃ m, k = m + 1 := ⟨k - 1, by omega⟩
    have : i = ss.length := by
      have : ss.length - i = 0 := by
        rcases Nat.mul_eq_zero.1 (Nat.le_zero.1 hM) with h | h <;> omega
      omega
    subst this
    simp only [i_lex_apart.l0]
    rw [if_neg (by omega), apart_yes hp, dlen]
  | succ M ih =>
    refine ⟨fun i k hi hM hk hp => ?_, fun i x k hi hx hM hk hp hq => ?_⟩
    · obtain ⟨k, rfl⟩ : ∃ m, k = m + 1 := ⟨k - 1, by omega⟩
      simp only [i_lex_apart.l0]
      by_cases h : i < ss.length
      · rw [if_pos (by omega), if_pos (by omega)]
        refine ih.2 i 0 k h (by omega) ?_ (by omega) hp (fun q hq => by omega)
        rw [show ss.length - i = (ss.length - (i + 1)) + 1 by omega, Nat.succ_mul] at hM
        omega
      · have : i = ss.length := by omega
        subst this
        rw [if_neg (by omega), apart_yes hp, dlen]
    · obtain ⟨k, rfl⟩ : ∃ m, k = m + 1 := ⟨k - 1, by omega⟩
      simp only [i_lex_apart.l1]
      by_cases h : x < ss.length
      · rw [if_pos (by omega), if_pos (by omega), Int.toNat_natCast, Int.toNat_natCast]
        have hb : badW ss i x = ((wd ss i).toList.isEmpty || (decide (i ≠ x) && begB (wd ss x) (wd ss i))) := rfl
        by_cases h1 : (nt ss i ByteArray.empty).toList = []
        · rw [if_pos h1]
          rw [apart_no i x hi h (by rw [hb]; unfold wd; rw [h1]; rfl)]
        · rw [if_neg h1]
          have h1' : (wd ss i).toList.isEmpty = false := by unfold wd; simpa using h1
          rw [h1', Bool.false_or] at hb
          rw [w64 (by omega) (by omega)]
          by_cases h2 : i = x
          · rw [if_pos (by omega)]
            exact ih.2 i (x + 1) k hi (by omega) (by omega) (by omega) hp (next_bad hq (by rw [hb, decide_eq_false (by omega)]; rfl))
          · rw [if_neg (by omega), prefix_is]
            rw [decide_eq_true h2, Bool.true_and] at hb
            change (if begB (wd ss x) (wd ss i) = true then _ else _) = _
            cases hB : begB (wd ss x) (wd ss i) with
            | true => rw [if_pos rfl, apart_no i x hi h (hb.trans hB)]
            | false =>
              rw [if_neg (by decide)]
              exact ih.2 i (x + 1) k hi (by omega) (by omega) (by omega) hp (next_bad hq (hb.trans hB))
      · have : x = ss.length := by omega
        subst this
        rw [if_neg (by omega), w64 (by omega) (by omega)]
        refine ih.1 (i + 1) k (by omega) (by omega) (by omega) (fun j hj q hql => ?_)
        rcases (show j < i ∨ j = i by omega) with h' | rfl
        · exact hp j h' q hql
        · exact hq q hql
theorem sq_le {n : Nat} (h : n ≤ 100) : n * (n + 2) ≤ 10200 := Nat.le_trans (Nat.mul_le_mul h (show n + 2 ≤ 102 by omega)) (by decide)
theorem apart_is {ss : List ByteArray} (hn : ss.length ≤ 100) {k : Nat} (hk : 10200 < k) : i_lex_apart.f k ss = some (apartB ss) ∧ True := by
  have := sq_le hn
  exact ⟨(apart_l ss (by omega) 10200).1 0 k (by omega) (by omega) hk (fun j hj => by omega), trivial⟩
def mostN (t : ByteArray) (a : Int) (ss : List ByteArray) : Nat → Int
  | 0 => 0
  | k + 1 => max (mostN t a ss k) (fitN t a (wd ss k))
theorem mostN_le {t : ByteArray} {a : Int} (ss : List ByteArray) (ha : a ≤ t.size) : ∀ k, 0 ≤ mostN t a ss k ∧ a + mostN t a ss k ≤ t.size
  | 0 => by unfold mostN; omega
  | k + 1 => by
    have h1 := mostN_le ss ha k
    have h2 := fitN_le (wd ss k) ha
    unfold mostN
    omega
def endE (t : ByteArray) (a : Int) (ss : List ByteArray) (k : Nat) : Int := if 0 < k ∧ a + mostN t a ss k = t.size then 1 else 2
def oneF (t : ByteArray) (a : Int) (ss : List ByteArray) : Nat → Nat → Int × Int × Int
  | 0, k => (a + mostN t a ss k, 0, endE t a ss k)
  | f + 1, k => if fitN t a (wd ss k) = (wd ss k).size then (a + fitN t a (wd ss k), (k : Int), 0) else oneF t a ss f (k + 1)
theorem one_l (t : ByteArray) (a : Int) (ss : List ByteArray) (ht : t.size ≤ 1000) (hn : ss.length ≤ 100) (hs : ∀ i, i < ss.length → (wd ss i).size ≤ 1000) (h0 : 0 ≤ a) (ha : a ≤ t.size) : ∀ (d i k : Nat), i + d = ss.length → d + 1001 < k →
    i_lex_OneOf.l0 k t a ss i (a + mostN t a ss i) 0 (endE t a ss i) = some (oneF t a ss d i) := by
  intro d
  induction d with
  | zero =>
    intro i k hd hk
    obtain ⟨k, rfl⟩ : ∃ m, k = m + 1 := ⟨k - 1, by omega⟩
    simp only [i_lex_OneOf.l0, oneF]
    rw [if_neg (by omega)]
  | succ d ih =>
    intro i k hd hk
    obtain ⟨k, rfl⟩ : ∃ m, k = m + 1 := ⟨k - 1, by omega⟩
    simp only [i_lex_OneOf.l0, oneF]
    have hi : i < ss.length := by omega
    rw [if_pos (by omega), if_pos (by omega), Int.toNat_natCast, show nt ss i ByteArray.empty = wd ss i from rfl, word_is ht (hs i hi) (by have := hs i hi; omega)]
    have e : wordZ t a (wd ss i) = (a + fitN t a (wd ss i), 0, wdE t a (wd ss i) (fitN t a (wd ss i))) := by unfold wordZ; rw [if_pos ⟨h0, ha⟩]
    rw [e]
    simp only [Option.bind_some]
    have hf := fitN_le (wd ss i) ha
    have hm := mostN_le ss ha i
    have hw : wrap64 ((i : Int) + 1) = ((i + 1 : Nat) : Int) := by rw [w64 (by omega) (by omega)]; omega
    rw [hw]
    have ih' := ih (i + 1) k (by omega) (by omega)
    have hnx : mostN t a ss (i + 1) = max (mostN t a ss i) (fitN t a (wd ss i)) := rfl
    have m0 : i = 0 → mostN t a ss i = 0 := fun h => by rw [h]; rfl
    by_cases h1 : fitN t a (wd ss i) = (wd ss i).size
    · rw [if_pos h1, show wdE t a (wd ss i) (fitN t a (wd ss i)) = 0 by unfold wdE; rw [if_pos h1], if_pos rfl]
    · rw [if_neg h1]
      by_cases h2 : a + fitN t a (wd ss i) = t.size
      · have ew : wdE t a (wd ss i) (fitN t a (wd ss i)) = 1 := by unfold wdE; rw [if_neg h1, if_pos h2]
        have en : endE t a ss (i + 1) = 1 := by unfold endE; rw [if_pos ⟨by omega, by omega⟩]
        rw [en, show a + mostN t a ss (i + 1) = a + fitN t a (wd ss i) by omega] at ih'
        rw [ew, if_neg (by decide)]
        split
        · exact ih'
        · rw [if_pos rfl]; exact ih'
      · have ew : wdE t a (wd ss i) (fitN t a (wd ss i)) = 2 := by unfold wdE; rw [if_neg h1, if_neg h2]
        rw [ew, if_neg (by decide), if_neg (show ¬ ((2 : Int) = 1) by decide)]
        by_cases h3 : a + fitN t a (wd ss i) > a + mostN t a ss i
        · rw [if_pos h3]
          have en : endE t a ss (i + 1) = 2 := by unfold endE; rw [if_neg (by omega)]
          rw [en, show a + mostN t a ss (i + 1) = a + fitN t a (wd ss i) by omega] at ih'
          exact ih'
        · rw [if_neg h3]
          have e3 : mostN t a ss (i + 1) = mostN t a ss i := by omega
          have en : endE t a ss (i + 1) = endE t a ss i := by
            unfold endE
            rw [e3]
            by_cases h4 : a + mostN t a ss i = t.size
            · rw [if_pos ⟨by omega, h4⟩, if_pos ⟨by omega, h4⟩]
            · rw [if_neg (fun h => h4 h.2), if_neg (fun h => h4 h.2)]
          rw [en, e3] at ih'
          exact ih'
def oneZ (t : ByteArray) (a : Int) (ss : List ByteArray) : Int × Int × Int := if (0 ≤ a ∧ a ≤ t.size) ∧ apartB ss = true then oneF t a ss ss.length 0 else (0, 0, 5)
theorem one_is {t : ByteArray} {a : Int} {ss : List ByteArray} (ht : t.size ≤ 1000) (hn : ss.length ≤ 100) (hs : ∀ i, i < ss.length → (wd ss i).size ≤ 1000) {k : Nat} (hk : 20000 < k) : i_lex_OneOf.f k t a ss = some (oneZ t a ss) ∧ True := by
  unfold i_lex_OneOf.f oneZ
  by_cases h : 0 ≤ a ∧ a ≤ t.size
  · rw [(there_t h.1 h.2).1]
    obtain ⟨A, B⟩ := apart_is (ss := ss) hn (k := k) (by omega)
    simp only [Option.bind_some, if_true, A]
    cases hp : apartB ss with
    | true =>
      rw [if_pos rfl, if_pos ⟨h, rfl⟩]
      have L := one_l t a ss ht hn hs h.1 h.2 ss.length 0 k (by omega) (by omega)
      rw [show a + mostN t a ss 0 = a from Int.add_zero _, show endE t a ss 0 = 2 from rfl] at L
      exact ⟨L, trivial⟩
    | false =>
      rw [if_neg (show ¬ (false = true) by decide), if_neg (show ¬ ((0 ≤ a ∧ a ≤ (t.size : Int)) ∧ false = true) from fun h' => absurd h'.2 (by decide))]
      exact ⟨rfl, trivial⟩
  · rw [(there_f h).1, if_neg (fun h' => h h'.1)]
    exact ⟨rfl, trivial⟩
end Go.Proofs.Ytaipghemddjecaa
