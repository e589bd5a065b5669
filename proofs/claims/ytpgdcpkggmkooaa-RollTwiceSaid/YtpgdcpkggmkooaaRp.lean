/- Rolls in plain words: writing; what is written is read. -/
import Derived.Test.YtpgdcpkggmkooaaRo
namespace Go.Proofs.Ytpgdcpkggmkooaa
open Go.RowKit
set_option linter.unusedVariables false
set_option linter.unusedSimpArgs false
theorem item_size {kd s : Nat} (h0 : 0 < kd) (h : kd < 7) (hs : s < 64) : (itemT kd s).size = 4 := by
  obtain ⟨c, hc, _, hl, ho⟩ := let_b1 ⟨kd, h⟩ h0
  unfold itemT
  rw [name_b1 hs, show letterB (kd : Int) = B1 c from hl, ro_size, ro_size, ro_size, b1_size, b1_size, b1_size, b1_size]
/-- where a man stands. -/
def whr (b : List Int) (m : Int) : Nat → Nat → List Int
  | 0, _ => []
  | d + 1, i => if nt b i 0 = m then (i : Int) :: whr b m d (i + 1) else whr b m d (i + 1)
theorem whr_len (b : List Int) (m : Int) : ∀ d i, (whr b m d i).length ≤ d
  | 0, _ => Nat.le_refl _
  | d + 1, i => by
    have := whr_len b m d (i + 1)
    unfold whr; split <;> simp <;> omega
theorem whr_in (b : List Int) (m : Int) : ∀ d i x, x ∈ whr b m d i → (i : Int) ≤ x ∧ x < (i + d : Nat)
  | 0, _, x, h => by simp [whr] at h
  | d + 1, i, x, h => by
    unfold whr at h
    split at h
    · rcases List.mem_cons.mp h with rfl | h
      · omega
      · have := whr_in b m d (i + 1) x h; omega
    · have := whr_in b m d (i + 1) x h; omega
theorem where_l {b : List Int} (hb : ∀ i, -128 ≤ nt b i 0 ∧ nt b i 0 ≤ 127) (m : Int) : ∀ (d i k : Nat) (acc : List Int), i + d = 64 → d < k → acc.length ≤ i → i_board_Where.l0 k b m acc i = some (acc ++ whr b m d i) ∧ i_alfilref03_Where.l0 k b m acc i = some (acc ++ whr b m d i) := by
  intro d
  induction d with
  | zero =>
    intro i k acc hi hk ha
    obtain ⟨k, rfl⟩ : ∃ q, k = q + 1 := ⟨k - 1, by omega⟩
    rw [i_board_Where.l0, i_alfilref03_Where.l0, if_neg (by omega), if_neg (by omega)]
    simp [whr]
  | succ d ih =>
    intro i k acc hi hk ha
    obtain ⟨k, rfl⟩ : ∃ q, k = q + 1 := ⟨k - 1, by omega⟩
    have hv := hb i
    have e1 : (i : Int) < 64 := by omega
    have e2 : (0 : Int) ≤ i := by omega
    have e3 : acc.length < 17592186044416 := by omega
    have e4 : wrap64 (nt b i 0) = nt b i 0 := w64 (by omega) (by omega)
    have e5 : wrap64 ((i : Int) + 1) = ((i + 1 : Nat) : Int) := by rw [w64 (by omega) (by omega)]; omega
    rw [i_board_Where.l0, i_alfilref03_Where.l0]
    simp only [e1, e2, e3, if_true, Int.toNat_natCast, e4, e5]
    unfold whr
    by_cases hm : nt b i 0 = m
    · simp only [hm, if_true]
      obtain ⟨A, B⟩ := ih (i + 1) k (acc ++ [(i : Int)]) (by omega) (by omega) (by simp; omega)
      rw [A, B]
      simp
    · simp only [hm, if_false]
      exact ih (i + 1) k acc (by omega) (by omega) (by omega)
theorem where_is {b : List Int} (hb : ∀ i, -128 ≤ nt b i 0 ∧ nt b i 0 ≤ 127) (m : Int) {k : Nat} (hk : 64 < k) : i_board_Where.f k b m = some (whr b m 64 0) ∧ i_alfilref03_Where.f k b m = some (whr b m 64 0) := by
  have := where_l hb m 64 0 k [] (by omega) hk (by simp)
  simpa [i_board_Where.f, i_alfilref03_Where.f] using this
/-- the men of a kind, one behind the other. -/
def joinT (kd : Nat) : List Int → ByteArray
  | [] => ⟨#[]⟩
  | s :: l => itemT kd s.toNat ++ joinT kd l
def sqT (b : List Int) (m : Int) (kd : Nat) : Nat → Nat → ByteArray
  | 0, _ => ⟨#[]⟩
  | d + 1, i => if nt b i 0 = m then itemT kd i ++ sqT b m kd d (i + 1) else sqT b m kd d (i + 1)
theorem join_whr (b : List Int) (m : Int) (kd : Nat) : ∀ d i, joinT kd (whr b m d i) = sqT b m kd d i
  | 0, _ => rfl
  | d + 1, i => by
    unfold whr sqT
    split
    · rw [joinT, Int.toNat_natCast, join_whr b m kd d (i + 1)]
    · exact join_whr b m kd d (i + 1)
theorem join_size {kd : Nat} (h0 : 0 < kd) (h : kd < 7) : ∀ l : List Int, (∀ x ∈ l, 0 ≤ x ∧ x < 64) → (joinT kd l).size = 4 * l.length
  | [], _ => rfl
  | s :: l, hl => by
    have hs := hl s (by simp)
    rw [joinT, ro_size, item_size h0 h (by omega), join_size h0 h l (fun x hx => hl x (by simp [hx])), List.length_cons]; omega
theorem kind_item {kd : Nat} {s : Int} (hs : 0 ≤ s ∧ s < 64) : (⟨#[32]⟩ : ByteArray) ++ letterB (kd : Int) ++ nameB s = itemT kd s.toNat := by
  unfold itemT
  rw [show ((s.toNat : Nat) : Int) = s by omega]; rfl
theorem nt_drop {l : List Int} {j : Nat} (h : j < l.length) : l.drop j = nt l j 0 :: l.drop (j + 1) := by
  rw [List.drop_eq_getElem_cons h, nt_get h]
theorem half_1 {b : List Int} {sd : Int} {kd : Nat} (h0 : 0 < kd) (h : kd < 7) {l : List Int} (hl : ∀ x ∈ l, 0 ≤ x ∧ x < 64) (hn : l.length ≤ 64) : ∀ (d j k : Nat) (out : ByteArray), j + d = l.length → out.size + 4 * d ≤ 100000 →
    i_roll_half.l1 (k + d + 1) b sd kd l out j = i_roll_half.l0 k b sd (out ++ joinT kd (l.drop j)) ((kd - 1 : Nat) : Int) := by
  intro d
  induction d with
  | zero =>
    intro j k out hj ho
    rw [i_roll_half.l1, if_neg (by omega), w64 (x := (kd : Int) - 1) (by omega) (by omega), show (kd : Int) - 1 = ((kd - 1 : Nat) : Int) by omega, List.drop_eq_nil_of_le (by omega), joinT, ro_nil2]
  | succ d ih =>
    intro j k out hj ho
    have hj' : j < l.length := by omega
    have hs := hl (nt l j 0) (by rw [nt_get hj']; exact List.getElem_mem hj')
    have sz := item_size h0 h (s := (nt l j 0).toNat) (by omega)
    rw [show k + (d + 1) + 1 = (k + d + 1) + 1 by omega, i_roll_half.l1, if_pos (by omega), if_pos (by omega), Int.toNat_natCast, kind_item hs, sz]
    have s1 : 1 + (letterB (kd : Int)).size ≤ 9223372036854775807 := by
      obtain ⟨c, hc, _, hl, ho⟩ := let_b1 ⟨kd, h⟩ h0
      rw [show letterB (kd : Int) = B1 c from hl, b1_size]; omega
    have s2 : ((⟨#[32]⟩ : ByteArray) ++ letterB (kd : Int)).size + (nameB (nt l j 0)).size ≤ 9223372036854775807 := by
      rw [← ro_size, kind_item hs, sz]; omega
    rw [if_pos s1, if_pos s2, if_pos (by omega), w64 (x := (j : Int) + 1) (by omega) (by omega), show (j : Int) + 1 = ((j + 1 : Nat) : Int) by omega]
    rw [ih (j + 1) k _ (by omega) (by rw [ro_size, sz]; omega), nt_drop hj', joinT, ro_assoc]
/-- a side's men, from a kind downward. -/
def kindsT (b : List Int) (sd : Int) : Nat → ByteArray
  | 0 => ⟨#[]⟩
  | kd + 1 => sqT b (if sd = 0 then ((kd + 1 : Nat) : Int) else -((kd + 1 : Nat) : Int)) (kd + 1) 64 0 ++ kindsT b sd kd
theorem half_0 {b : List Int} (hb : ∀ i, -128 ≤ nt b i 0 ∧ nt b i 0 ≤ 127) {sd : Int} (hs : sd = 0 ∨ sd = 1) : ∀ (kd k : Nat) (out : ByteArray), kd < 7 → 70 * kd + 100 < k → out.size + 256 * kd ≤ 90000 → i_roll_half.l0 k b sd out kd = some (out ++ kindsT b sd kd) := by
  intro kd
  induction kd with
  | zero =>
    intro k out _ hk ho
    obtain ⟨k, rfl⟩ : ∃ q, k = q + 1 := ⟨k - 1, by omega⟩
    rw [i_roll_half.l0, if_neg (by decide), kindsT, ro_nil2]
  | succ kd ih =>
    intro k out h hk ho
    obtain ⟨k, rfl⟩ : ∃ q, k = q + 1 := ⟨k - 1, by omega⟩
    rw [i_roll_half.l0, if_pos (by omega), make_is (by omega) h hs]
    simp only [Option.bind_some]
    rw [(where_is hb _ (k := k) (by omega)).1]
    simp only [Option.bind_some]
    generalize hm : (if sd = 0 then ((kd + 1 : Nat) : Int) else -((kd + 1 : Nat) : Int)) = m
    have hlen := whr_len b m 64 0
    obtain ⟨k', hk'⟩ : ∃ q, k = q + (whr b m 64 0).length + 1 := ⟨k - (whr b m 64 0).length - 1, by omega⟩
    have hin : ∀ x ∈ whr b m 64 0, 0 ≤ x ∧ x < 64 := fun x hx => by have := whr_in b m 64 0 x hx; omega
    have := half_1 (b := b) (sd := sd) (kd := kd + 1) (by omega) h hin hlen (whr b m 64 0).length 0 k' out (by omega) (by omega)
    rw [← hk', List.drop_zero, join_whr, show ((0 : Nat) : Int) = 0 from rfl] at this
    rw [this, show kd + 1 - 1 = kd by omega]
    have sz := join_size (kd := kd + 1) (by omega) h _ hin
    rw [join_whr] at sz
    rw [ih k' _ (by omega) (by omega) (by rw [ro_size, sz]; omega), kindsT, hm, ro_assoc]
theorem half_is {b : List Int} (hb : ∀ i, -128 ≤ nt b i 0 ∧ nt b i 0 ≤ 127) {sd : Int} (hs : sd = 0 ∨ sd = 1) {k : Nat} (hk : 600 < k) : i_roll_half.f k b sd = some (kindsT b sd 6) := by
  have := half_0 hb hs 6 k ⟨#[]⟩ (by omega) (by omega) (by decide)
  rw [ro_nil] at this
  exact this
theorem sq_size (b : List Int) (m : Int) {kd : Nat} (h0 : 0 < kd) (h : kd < 7) : ∀ d i, i + d = 64 → (sqT b m kd d i).size ≤ 4 * d
  | 0, _, _ => Nat.le_refl _
  | d + 1, i, hi => by
    have := sq_size b m h0 h d (i + 1) (by omega)
    unfold sqT
    split
    · rw [ro_size, item_size h0 h (by omega)]; omega
    · omega
theorem kinds_size (b : List Int) (sd : Int) : ∀ kd, kd < 7 → (kindsT b sd kd).size ≤ 256 * kd
  | 0, _ => Nat.le_refl _
  | kd + 1, h => by
    have h1 := kinds_size b sd kd (by omega)
    have h2 := sq_size b (if sd = 0 then ((kd + 1 : Nat) : Int) else -((kd + 1 : Nat) : Int)) (kd := kd + 1) (by omega) h 64 0 (by omega)
    rw [kindsT, ro_size]; omega
/-- a board's roll. -/
def rollT (b : List Int) : ByteArray := whiteT ++ kindsT b 0 6 ++ B1 32 ++ blackT ++ kindsT b 1 6
/-! the reference -/
theorem rr_file : ∀ (q : Nat) (s k : Nat), s / 8 = q → s < 64 → q < k → i_alfilref01_File.l0 k s = some ((s % 8 : Nat) : Int) := by
  intro q
  induction q with
  | zero => intro s k h hs hk; obtain ⟨k, rfl⟩ : ∃ m, k = m + 1 := ⟨k - 1, by omega⟩; rw [i_alfilref01_File.l0, if_neg (by omega), show s % 8 = s by omega]
  | succ q ih =>
    intro s k h hs hk
    obtain ⟨k, rfl⟩ : ∃ m, k = m + 1 := ⟨k - 1, by omega⟩
    rw [i_alfilref01_File.l0, if_pos (by omega), w64 (by omega) (by omega), show (s : Int) - 8 = ((s - 8 : Nat) : Int) by omega, ih (s - 8) k (by omega) (by omega) (by omega), show (s - 8) % 8 = s % 8 by omega]
theorem rr_rank : ∀ (q : Nat) (s n k : Nat), s / 8 = q → s < 64 → n + s / 8 < 64 → q < k → i_alfilref01_Rank.l0 k s n = some ((n + s / 8 : Nat) : Int) := by
  intro q
  induction q with
  | zero => intro s n k h hs hn hk; obtain ⟨k, rfl⟩ : ∃ m, k = m + 1 := ⟨k - 1, by omega⟩; rw [i_alfilref01_Rank.l0, if_neg (by omega), show n + s / 8 = n by omega]
  | succ q ih =>
    intro s n k h hs hn hk
    obtain ⟨k, rfl⟩ : ∃ m, k = m + 1 := ⟨k - 1, by omega⟩
    rw [i_alfilref01_Rank.l0, if_pos (by omega), w64 (by omega) (by omega), w64 (by omega) (by omega), show (s : Int) - 8 = ((s - 8 : Nat) : Int) by omega, show (n : Int) + 1 = ((n + 1 : Nat) : Int) by omega]
    rw [ih (s - 8) (n + 1) k (by omega) (by omega) (by omega) (by omega), show n + 1 + (s - 8) / 8 = n + s / 8 by omega]
theorem rr_pair : ∀ s : Fin 64, ((⟨#[97, 98, 99, 100, 101, 102, 103, 104]⟩ : ByteArray).extract (s.val % 8) (s.val % 8 + 1)) ++ ((⟨#[49, 50, 51, 52, 53, 54, 55, 56]⟩ : ByteArray).extract (s.val / 8) (s.val / 8 + 1)) = nameB (s.val : Int) ∧ ((⟨#[97, 98, 99, 100, 101, 102, 103, 104]⟩ : ByteArray).extract (s.val % 8) (s.val % 8 + 1)).size + ((⟨#[49, 50, 51, 52, 53, 54, 55, 56]⟩ : ByteArray).extract (s.val / 8) (s.val / 8 + 1)).size ≤ 2 := by decide +kernel
theorem rr_core (A B : ByteArray) (f r : Nat) (hf : f < 8) (hr : r < 8) (h2 : (A.extract f (f + 1)).size + (B.extract r (r + 1)).size ≤ 2) :
    (if 0 ≤ (f : Int) then (if (f : Int) ≤ wrap64 ((f : Int) + 1) then (if wrap64 ((f : Int) + 1) ≤ 8 then (if 0 ≤ (r : Int) then (if (r : Int) ≤ wrap64 ((r : Int) + 1) then (if wrap64 ((r : Int) + 1) ≤ 8 then
      (if (A.extract (f : Int).toNat ((wrap64 ((f : Int) + 1)) : Int).toNat).size + (B.extract (r : Int).toNat ((wrap64 ((r : Int) + 1)) : Int).toNat).size ≤ 9223372036854775807 then
        some ((A.extract (f : Int).toNat ((wrap64 ((f : Int) + 1)) : Int).toNat) ++ (B.extract (r : Int).toNat ((wrap64 ((r : Int) + 1)) : Int).toNat)) else none) else none) else none) else none) else none) else none) else none)
      = some (A.extract f (f + 1) ++ B.extract r (r + 1)) := by
  have ef : wrap64 ((f : Int) + 1) = ((f + 1 : Nat) : Int) := by rw [w64 (by omega) (by omega)]; omega
  have er : wrap64 ((r : Int) + 1) = ((r + 1 : Nat) : Int) := by rw [w64 (by omega) (by omega)]; omega
  rw [ef, er]
  simp only [Int.toNat_natCast]
  have h3 : (A.extract f (f + 1)).size + (B.extract r (r + 1)).size ≤ 9223372036854775807 := by omega
  rw [if_pos (by omega), if_pos (by omega), if_pos (by omega), if_pos (by omega), if_pos (by omega), if_pos (by omega), if_pos h3]
theorem rr_right {s : Nat} (hs : s < 64) : i_alfilref01_Right.f s = some true := by
  unfold i_alfilref01_Right.f
  rw [if_pos (by omega), decide_eq_true (by omega)]
theorem rr_f {s : Nat} (hs : s < 64) {k : Nat} (hk : 9 < k) : i_alfilref01_File.f k s = some ((s % 8 : Nat) : Int) := by
  unfold i_alfilref01_File.f
  rw [rr_right hs, Option.bind_some, if_pos rfl]
  exact rr_file (s / 8) s k rfl hs (by omega)
theorem rr_r {s : Nat} (hs : s < 64) {k : Nat} (hk : 9 < k) : i_alfilref01_Rank.f k s = some ((s / 8 : Nat) : Int) := by
  unfold i_alfilref01_Rank.f
  have r0 := rr_rank (s / 8) s 0 k rfl hs (by omega) (by omega)
  rw [Nat.zero_add] at r0
  rw [rr_right hs, Option.bind_some, if_pos rfl]
  exact r0
theorem rr_name0 {s : Nat} (hs : s < 64) {k : Nat} (hk : 9 < k) : i_alfilref01_Name.f k s = some (((⟨#[97, 98, 99, 100, 101, 102, 103, 104]⟩ : ByteArray).extract (s % 8) (s % 8 + 1)) ++ ((⟨#[49, 50, 51, 52, 53, 54, 55, 56]⟩ : ByteArray).extract (s / 8) (s / 8 + 1))) := by
  unfold i_alfilref01_Name.f
  rw [rr_right hs, rr_f hs hk, rr_r hs hk, Option.bind_some, if_pos rfl, Option.bind_some, Option.bind_some]
  exact rr_core _ _ (s % 8) (s / 8) (by omega) (by omega) (rr_pair ⟨s, hs⟩).2
theorem rr_name {s k : Nat} (h : s < 64) (hk : 10 < k) : i_alfilref01_Name.f k s = some (nameB (s : Int)) :=
  (rr_name0 h (by omega)).trans (congrArg some (rr_pair ⟨s, h⟩).1)
theorem ref_2 {b : List Int} {kd : Nat} (h0 : 0 < kd) (h : kd < 7) {l : List Int} (hl : ∀ x ∈ l, 0 ≤ x ∧ x < 64) (hn : l.length ≤ 64) : ∀ (d j k : Nat) (out : ByteArray), j + d = l.length → out.size + 4 * d ≤ 100000 → 10 < k →
    i_alfilref05_Write.l2 (k + d + 1) b 1 kd l out j = i_alfilref05_Write.l1 k b 1 (out ++ joinT kd (l.drop j)) ((kd - 1 : Nat) : Int) ∧ i_alfilref05_Write.l6 (k + d + 1) b 0 kd l out j = i_alfilref05_Write.l4 k b 0 (out ++ joinT kd (l.drop j)) ((kd - 1 : Nat) : Int) := by
  intro d
  induction d with
  | zero =>
    intro j k out hj ho hk
    rw [i_alfilref05_Write.l2, i_alfilref05_Write.l6, if_neg (by omega), if_neg (by omega), w64 (x := (kd : Int) - 1) (by omega) (by omega), show (kd : Int) - 1 = ((kd - 1 : Nat) : Int) by omega, List.drop_eq_nil_of_le (by omega), joinT, ro_nil2]
    exact ⟨rfl, rfl⟩
  | succ d ih =>
    intro j k out hj ho hk
    have hj' : j < l.length := by omega
    have hs := hl (nt l j 0) (by rw [nt_get hj']; exact List.getElem_mem hj')
    have sz := item_size h0 h (s := (nt l j 0).toNat) (by omega)
    have s1 : 1 + (letterB (kd : Int)).size ≤ 9223372036854775807 := by
      obtain ⟨c, hc, _, hl, ho⟩ := let_b1 ⟨kd, h⟩ h0
      rw [show letterB (kd : Int) = B1 c from hl, b1_size]; omega
    have s2 : ((⟨#[32]⟩ : ByteArray) ++ letterB (kd : Int)).size + (nameB (nt l j 0)).size ≤ 9223372036854775807 := by
      rw [← ro_size, kind_item hs, sz]; omega
    have nm : i_alfilref01_Name.f (k + d + 1) (nt l j 0) = some (nameB (nt l j 0)) := by
      have := rr_name (s := (nt l j 0).toNat) (k := k + d + 1) (by omega) (by omega)
      rwa [show (((nt l j 0).toNat : Nat) : Int) = nt l j 0 by omega] at this
    obtain ⟨I1, I2⟩ := ih (j + 1) k (out ++ itemT kd (nt l j 0).toNat) (by omega) (by rw [ro_size, sz]; omega) hk
    have e1 : (j : Int) < (l.length : Int) := by omega
    have e2 : (0 : Int) ≤ j := by omega
    have e3 : out.size + 4 ≤ 9223372036854775807 := by omega
    have e5 : wrap64 ((j : Int) + 1) = ((j + 1 : Nat) : Int) := by rw [w64 (by omega) (by omega)]; omega
    have e6 : out ++ joinT kd (l.drop j) = out ++ itemT kd (nt l j 0).toNat ++ joinT kd (l.drop (j + 1)) := by rw [nt_drop hj', joinT, ro_assoc]
    rw [show k + (d + 1) + 1 = (k + d + 1) + 1 by omega, e6, ← I1, ← I2]
    refine ⟨?_, ?_⟩
    · rw [i_alfilref05_Write.l2, if_pos e1, if_pos s1, if_pos e2, Int.toNat_natCast, nm]
      simp only [Option.bind_some]
      rw [if_pos s2, kind_item hs, sz, if_pos e3, e5]
    · rw [i_alfilref05_Write.l6, if_pos e1, if_pos s1, if_pos e2, Int.toNat_natCast, nm]
      simp only [Option.bind_some]
      rw [if_pos s2, kind_item hs, sz, if_pos e3, e5]
theorem ref_1 {b : List Int} (hb : ∀ i, -128 ≤ nt b i 0 ∧ nt b i 0 ≤ 127) : ∀ (kd k : Nat) (out : ByteArray), kd < 7 → 70 * kd + 100 < k → out.size + 256 * kd ≤ 90000 →
    (∃ k', 20 < k' ∧ i_alfilref05_Write.l1 k b 1 out kd = i_alfilref05_Write.l0 k' b (out ++ kindsT b 1 kd) 2) ∧ (∃ k', k ≤ k' + 70 * kd + 1 ∧ i_alfilref05_Write.l4 k b 0 out kd = i_alfilref05_Write.l0 k' b (out ++ kindsT b 0 kd) 1) := by
  intro kd
  induction kd with
  | zero =>
    intro k out _ hk ho
    obtain ⟨k, rfl⟩ : ∃ q, k = q + 1 := ⟨k - 1, by omega⟩
    rw [i_alfilref05_Write.l1, i_alfilref05_Write.l4, if_neg (by decide), if_neg (by decide), kindsT, kindsT, ro_nil2]
    exact ⟨⟨k, by omega, by rw [show wrap64 (1 + 1) = 2 from w64 (by omega) (by omega)]⟩, ⟨k, by omega, by rw [show wrap64 (0 + 1) = 1 from w64 (by omega) (by omega)]⟩⟩
  | succ kd ih =>
    intro k out h hk ho
    obtain ⟨k, rfl⟩ : ∃ q, k = q + 1 := ⟨k - 1, by omega⟩
    have u1 : i_alfilref05_Write.l1 (k + 1) b 1 out ((kd + 1 : Nat) : Int) = i_alfilref05_Write.l2 k b 1 ((kd + 1 : Nat) : Int) (whr b (-((kd + 1 : Nat) : Int)) 64 0) out 0 := by
      rw [i_alfilref05_Write.l1, if_pos (by omega), if_pos rfl, w64 (x := -((kd + 1 : Nat) : Int)) (by omega) (by omega), (where_is hb _ (k := k) (by omega)).2]; rfl
    have u2 : i_alfilref05_Write.l4 (k + 1) b 0 out ((kd + 1 : Nat) : Int) = i_alfilref05_Write.l6 k b 0 ((kd + 1 : Nat) : Int) (whr b ((kd + 1 : Nat) : Int) 64 0) out 0 := by
      rw [i_alfilref05_Write.l4, if_pos (by omega), if_neg (by decide), (where_is hb _ (k := k) (by omega)).2]; rfl
    rw [u1, u2]
    have go : ∀ m : Int, ∃ k', k ≤ k' + 65 ∧ k' + (whr b m 64 0).length + 1 = k ∧ (∀ x ∈ whr b m 64 0, 0 ≤ x ∧ x < 64) ∧ (whr b m 64 0).length ≤ 64 := fun m => by
      have hlen := whr_len b m 64 0
      exact ⟨k - (whr b m 64 0).length - 1, by omega, by omega, fun x hx => by have := whr_in b m 64 0 x hx; omega, hlen⟩
    refine ⟨?_, ?_⟩
    · obtain ⟨k', h1, h2, h3, h4⟩ := go (-((kd + 1 : Nat) : Int))
      have := (ref_2 (b := b) (kd := kd + 1) (by omega) h h3 h4 _ 0 k' out (Nat.zero_add _) (by omega) (by omega)).1
      rw [h2, List.drop_zero, join_whr, show ((0 : Nat) : Int) = 0 from rfl, show kd + 1 - 1 = kd by omega] at this
      rw [this]
      have sz := join_size (kd := kd + 1) (by omega) h _ h3
      rw [join_whr] at sz
      obtain ⟨⟨k'', q1, q2⟩, _⟩ := ih k' (out ++ sqT b (-((kd + 1 : Nat) : Int)) (kd + 1) 64 0) (by omega) (by omega) (by rw [ro_size, sz]; omega)
      exact ⟨k'', q1, by rw [q2, kindsT, if_neg (by decide), ro_assoc]⟩
    · obtain ⟨k', h1, h2, h3, h4⟩ := go ((kd + 1 : Nat) : Int)
      have := (ref_2 (b := b) (kd := kd + 1) (by omega) h h3 h4 _ 0 k' out (Nat.zero_add _) (by omega) (by omega)).2
      rw [h2, List.drop_zero, join_whr, show ((0 : Nat) : Int) = 0 from rfl, show kd + 1 - 1 = kd by omega] at this
      rw [this]
      have sz := join_size (kd := kd + 1) (by omega) h _ h3
      rw [join_whr] at sz
      obtain ⟨_, ⟨k'', q1, q2⟩⟩ := ih k' (out ++ sqT b ((kd + 1 : Nat) : Int) (kd + 1) 64 0) (by omega) (by omega) (by rw [ro_size, sz]; omega)
      exact ⟨k'', by omega, by rw [q2, kindsT, if_pos rfl, ro_assoc]⟩
theorem ref_write {b : List Int} (hb : ∀ i, -128 ≤ nt b i 0 ∧ nt b i 0 ≤ 127) {k : Nat} (hk : 2000 < k) : i_alfilref05_Write.l0 k b whiteT 0 = some (rollT b, 0) := by
  obtain ⟨k, rfl⟩ : ∃ q, k = q + 1 := ⟨k - 1, by omega⟩
  rw [i_alfilref05_Write.l0, if_pos (by decide), if_neg (by decide)]
  obtain ⟨_, ⟨k1, a1, a2⟩⟩ := ref_1 hb 6 k whiteT (by omega) (by omega) (by decide)
  rw [show ((6 : Nat) : Int) = 6 from rfl] at a2
  rw [a2]
  obtain ⟨k1, rfl⟩ : ∃ q, k1 = q + 1 := ⟨k1 - 1, by omega⟩
  have s0 := kinds_size b 0 6 (by omega)
  have s1 : whiteT.size = 5 := rfl
  rw [i_alfilref05_Write.l0, if_pos (by decide), if_pos rfl, if_pos (by rw [ro_size]; omega)]
  obtain ⟨⟨k2, c1, c2⟩, _⟩ := ref_1 hb 6 k1 (whiteT ++ kindsT b 0 6 ++ ⟨#[32, 98, 108, 97, 99, 107]⟩) (by omega) (by omega) (by rw [ro_size, ro_size, show (⟨#[32, 98, 108, 97, 99, 107]⟩ : ByteArray).size = 6 from rfl]; omega)
  rw [show ((6 : Nat) : Int) = 6 from rfl] at c2
  rw [c2]
  obtain ⟨k2, rfl⟩ : ∃ q, k2 = q + 1 := ⟨k2 - 1, by omega⟩
  rw [i_alfilref05_Write.l0, if_neg (by decide)]
  unfold rollT
  rw [show (⟨#[32, 98, 108, 97, 99, 107]⟩ : ByteArray) = B1 32 ++ blackT by decide +kernel]
  simp only [ro_assoc]
/-! reading what was written -/
/-- the board of those squares that meet a test. -/
def Bd (b : List Int) (P : Nat → Bool) : List Int := (List.range 64).map fun s => if P s then nt b s 0 else 0
theorem Bd_len (b : List Int) (P : Nat → Bool) : (Bd b P).length = 64 := by simp [Bd]
theorem Bd_get (b : List Int) (P : Nat → Bool) {s : Nat} (h : s < 64) : nt (Bd b P) s 0 = if P s then nt b s 0 else 0 := by
  rw [nt_get (by rw [Bd_len]; exact h)]; simp [Bd]
theorem Bd_ext {b : List Int} {P P' : Nat → Bool} (h : ∀ s, s < 64 → (if P s then nt b s 0 else 0) = if P' s then nt b s 0 else 0) : Bd b P = Bd b P' :=
  ext64 (Bd_len _ _) (Bd_len _ _) fun s hs => by rw [Bd_get _ _ hs, Bd_get _ _ hs, h s hs]
theorem Bd_set {b : List Int} {P P' : Nat → Bool} {i : Nat} {m : Int} (hm : nt b i 0 = m) (h1 : P' i = true) (h : ∀ s, s < 64 → s ≠ i → P' s = P s) : (Bd b P).set i m = Bd b P' :=
  ext64 (by rw [List.length_set, Bd_len]) (Bd_len _ _) fun s hs => by
    rw [nt_set (by rw [Bd_len]; exact hs), Bd_get _ _ hs, Bd_get _ _ hs]
    by_cases e : i = s
    · subst e; rw [if_pos rfl, h1, if_pos rfl, hm]
    · rw [if_neg e, h s hs (fun h' => e h'.symm)]
theorem rd_sq {b : List Int} {sd m : Int} {kd : Nat} (h0 : 0 < kd) (h : kd < 7) (hsd : sd = 0 ∨ sd = 1) (hm : m = if sd = 0 then (kd : Int) else -(kd : Int)) {Q : Nat → Bool} (hQ : ∀ s, Q s = true → nt b s 0 ≠ m) {w : ByteArray} : ∀ (d i : Nat) (mn : Int) (f : ByteArray), i + d = 64 →
    ∃ mn' f', Rd (sqT b m kd d i) (Bd b (fun s => Q s || (decide (nt b s 0 = m) && decide (s < i))), 82, sd, w, mn, f) (Bd b (fun s => Q s || decide (nt b s 0 = m)), 82, sd, w, mn', f') := by
  intro d
  induction d with
  | zero =>
    intro i mn f hi
    refine ⟨mn, f, ?_⟩
    rw [Bd_ext (P := fun s => Q s || (decide (nt b s 0 = m) && decide (s < i))) (P' := fun s => Q s || decide (nt b s 0 = m)) (fun s hs => by simp [show s < i by omega])]
    exact Rd.nil _
  | succ d ih =>
    intro i mn f hi
    unfold sqT
    by_cases hn : nt b i 0 = m
    · rw [if_pos hn]
      obtain ⟨mn', f', I⟩ := ih (i + 1) (if sd = 0 then (kd : Int) else -(kd : Int)) (B1 (97 + i % 8)) (by omega)
      refine ⟨mn', f', Rd.app (rd_item h0 h (show i < 64 by omega) hsd ?_) ?_⟩
      · rw [Bd_get _ _ (by omega)]
        cases hq : Q i with
        | true => exact absurd hn (hQ i hq)
        | false => simp
      · rw [← hm, Bd_set (P' := fun s => Q s || (decide (nt b s 0 = m) && decide (s < i + 1))) hn (by simp [hn]) (fun s hs hne => by
          have : (decide (s < i + 1)) = decide (s < i) := by rw [decide_eq_decide]; omega
          simp only [this])]
        rw [← hm] at I
        exact I
    · rw [if_neg hn]
      obtain ⟨mn', f', I⟩ := ih (i + 1) mn f (by omega)
      refine ⟨mn', f', ?_⟩
      rw [Bd_ext (P := fun s => Q s || (decide (nt b s 0 = m) && decide (s < i))) (P' := fun s => Q s || (decide (nt b s 0 = m) && decide (s < i + 1))) (fun s hs => by
        by_cases e : s = i
        · subst e; simp [hn]
        · have : (decide (s < i + 1)) = decide (s < i) := by rw [decide_eq_decide]; omega
          simp only [this])]
      exact I
/-- which squares are told behind a kind. -/
def told (b : List Int) (sd : Int) (kd : Nat) (s : Nat) : Bool := decide ((kd : Int) < nt b s 0) || (decide (sd = 1) && (decide (0 < nt b s 0) || decide (nt b s 0 < -(kd : Int))))
theorem rd_kinds {b : List Int} {sd : Int} (hsd : sd = 0 ∨ sd = 1) {w : ByteArray} : ∀ (kd : Nat) (mn : Int) (f : ByteArray), kd < 7 →
    ∃ mn' f', Rd (kindsT b sd kd) (Bd b (told b sd kd), 82, sd, w, mn, f) (Bd b (told b sd 0), 82, sd, w, mn', f') := by
  intro kd
  induction kd with
  | zero => intro mn f _; exact ⟨mn, f, Rd.nil _⟩
  | succ kd ih =>
    intro mn f h
    rw [kindsT]
    generalize hm : (if sd = 0 then ((kd + 1 : Nat) : Int) else -((kd + 1 : Nat) : Int)) = m
    obtain ⟨mn1, f1, R1⟩ := rd_sq (b := b) (sd := sd) (m := m) (kd := kd + 1) (by omega) h hsd hm.symm (Q := told b sd (kd + 1)) (fun s hs => by
      unfold told at hs
      simp only [Bool.or_eq_true, Bool.and_eq_true, decide_eq_true_eq] at hs
      rcases hsd with rfl | rfl
      · rw [if_pos rfl] at hm; omega
      · rw [if_neg (by decide)] at hm; omega) (w := w) 64 0 mn f (by omega)
    obtain ⟨mn2, f2, R2⟩ := ih mn1 f1 (by omega)
    refine ⟨mn2, f2, Rd.app (s' := (Bd b (told b sd kd), 82, sd, w, mn1, f1)) ?_ R2⟩
    rw [Bd_ext (P := fun s => told b sd (kd + 1) s || (decide (nt b s 0 = m) && decide (s < 0))) (P' := told b sd (kd + 1)) (fun s hs => by simp)] at R1
    rw [Bd_ext (P := fun s => told b sd (kd + 1) s || decide (nt b s 0 = m)) (P' := told b sd kd) (fun s hs => by
      have e : (told b sd (kd + 1) s || decide (nt b s 0 = m)) = told b sd kd s := by
        unfold told
        rw [Bool.eq_iff_iff]
        simp only [Bool.or_eq_true, Bool.and_eq_true, decide_eq_true_eq]
        rcases hsd with rfl | rfl
        · rw [if_pos rfl] at hm; omega
        · rw [if_neg (by decide)] at hm; omega
      rw [e])] at R1
    exact R1
theorem rd_roll {b : List Int} (hl : b.length = 64) (hb : ∀ i, -6 ≤ nt b i 0 ∧ nt b i 0 ≤ 6) : ∃ mn f, Rd (rollT b) (zL, 68, 0, whiteT, 0, ⟨#[]⟩) (b, 82, 1, ⟨#[]⟩, mn, f) := by
  have z : Bd b (told b 0 6) = zL := by
    refine ext64 (Bd_len _ _) zL_len fun s hs => ?_
    have := hb s
    rw [Bd_get _ _ hs, show told b 0 6 s = false by unfold told; rw [Bool.eq_false_iff]; simp; omega]
    unfold zL; rw [nt_rep]; rfl
  have mid : Bd b (told b 0 0) = Bd b (told b 1 6) := Bd_ext fun s hs => by
    have := hb s
    rw [show told b 0 0 s = told b 1 6 s by unfold told; rw [Bool.eq_iff_iff]; simp; omega]
  have fin : Bd b (told b 1 0) = b := by
    refine ext64 (Bd_len _ _) hl fun s hs => ?_
    rw [Bd_get _ _ hs]
    split
    · rfl
    · rename_i h
      unfold told at h
      simp at h; omega
  obtain ⟨m1, f1, R1⟩ := rd_kinds (b := b) (sd := 0) (.inl rfl) (w := ⟨#[]⟩) 6 0 ⟨#[]⟩ (by omega)
  obtain ⟨m2, f2, R2⟩ := rd_kinds (b := b) (sd := 1) (.inr rfl) (w := ⟨#[]⟩) 6 m1 f1 (by omega)
  rw [z] at R1
  rw [← mid, fin] at R2
  refine ⟨m2, f2, ?_⟩
  unfold rollT
  rw [ro_assoc (whiteT ++ kindsT b 0 6) (B1 32) blackT]
  exact ((rd_white.app R1).app rd_black).app R2
end Go.Proofs.Ytpgdcpkggmkooaa
