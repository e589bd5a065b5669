/- The law LexSquares of package lex, in plain words: the reference, lines, the law. -/
import Derived.Test.YtabbkeliknidgaaLz
namespace Go.Proofs.Ytabbkeliknidgaa
open Go.RowKit
set_option linter.unusedVariables false
set_option linter.unusedSimpArgs false
theorem nm_core (A B : ByteArray) (f r : Nat) (hf : f < 8) (hr : r < 8) (h2 : (A.extract f (f + 1)).size + (B.extract r (r + 1)).size ≤ 2) :
    (if 0 ≤ (f : Int) then (if (f : Int) ≤ wrap64 ((f : Int) + 1) then (if wrap64 ((f : Int) + 1) ≤ 8 then (if 0 ≤ (r : Int) then (if (r : Int) ≤ wrap64 ((r : Int) + 1) then (if wrap64 ((r : Int) + 1) ≤ 8 then
      (if (A.extract (f : Int).toNat ((wrap64 ((f : Int) + 1)) : Int).toNat).size + (B.extract (r : Int).toNat ((wrap64 ((r : Int) + 1)) : Int).toNat).size ≤ 9223372036854775807 then
        some ((A.extract (f : Int).toNat ((wrap64 ((f : Int) + 1)) : Int).toNat) ++ (B.extract (r : Int).toNat ((wrap64 ((r : Int) + 1)) : Int).toNat)) else none) else none) else none) else none) else none) else none) else none)
      = some (A.extract f (f + 1) ++ B.extract r (r + 1)) := by
  have ef : wrap64 ((f : Int) + 1) = ((f + 1 : Nat) : Int) := by rw [w64 (by omega) (by omega)]; omega
  have er : wrap64 ((r : Int) + 1) = ((r + 1 : Nat) : Int) := by rw [w64 (by omega) (by omega)]; omega
  rw [ef, er]
  simp only [Int.toNat_natCast]
  have h3 : (A.extract f (f + 1)).size + (B.extract r (r + 1)).size ≤ 9223372036854775807 := by omega
  rw [if_pos (by omega), if_pos (by omega), if_pos (by omega), if_pos (by omega), if_pos (by omega), if_pos (by omega), if_pos h3]
theorem nm_file {s : Nat} (hs : s < 64) {k : Nat} (hk : 9 < k) : i_alfilref01_File.f k s = some ((s % 8 : Nat) : Int) := by
  unfold i_alfilref01_File.f i_alfilref01_Right.f
  rw [if_pos (by omega), show decide ((s : Int) ≤ 63) = true from decide_eq_true (by omega), Option.bind_some, if_pos rfl]
  exact rfile_l (s / 8) s k rfl hs (by omega)
theorem nm_rank {s : Nat} (hs : s < 64) {k : Nat} (hk : 9 < k) : i_alfilref01_Rank.f k s = some ((s / 8 : Nat) : Int) := by
  unfold i_alfilref01_Rank.f i_alfilref01_Right.f
  have r0 := rrank_l (s / 8) s 0 k rfl hs (by omega) (by omega)
  rw [Nat.zero_add] at r0
  rw [if_pos (by omega), show decide ((s : Int) ≤ 63) = true from decide_eq_true (by omega), Option.bind_some, if_pos rfl]
  exact r0
theorem nm_right {s : Nat} (hs : s < 64) : i_alfilref01_Right.f s = some true := by
  unfold i_alfilref01_Right.f
  rw [if_pos (by omega), show decide ((s : Int) ≤ 63) = true from decide_eq_true (by omega)]
theorem rname_is {s : Nat} (hs : s < 64) {k : Nat} (hk : 9 < k) : ∃ u : ByteArray, i_alfilref01_Name.f k s = some u ∧ u.toList = prs s := by
  refine ⟨(⟨#[97, 98, 99, 100, 101, 102, 103, 104]⟩ : ByteArray).extract (s % 8) (s % 8 + 1) ++ (⟨#[49, 50, 51, 52, 53, 54, 55, 56]⟩ : ByteArray).extract (s / 8) (s / 8 + 1), ?_, (ref_prs ⟨s, hs⟩).1⟩
  unfold i_alfilref01_Name.f
  rw [nm_right hs, nm_file hs hk, nm_rank hs hk, Option.bind_some, if_pos rfl, Option.bind_some, Option.bind_some]
  exact nm_core _ _ (s % 8) (s / 8) (by omega) (by omega) (ref_prs ⟨s, hs⟩).2
theorem two_list {z : ByteArray} (hz : z.size = 2) {j : Nat} (hj : j < 64) : prs j = z.toList ↔ (bt z 0 = 97 + (j : Int) % 8 ∧ bt z 1 = 49 + (j : Int) / 8) := by
  obtain ⟨⟨l⟩⟩ := z
  match l, hz with
  | [a, b], _ =>
    rw [ByteArray.toList_eq]
    show prs j = [a, b] ↔ (((a.toNat : Nat) : Int) = _ ∧ ((b.toNat : Nat) : Int) = _)
    unfold prs
    simp only [List.cons.injEq, and_true]
    have e : ∀ (m : Nat) (x : UInt8), m < 256 → (UInt8.ofNat m = x ↔ (x.toNat : Int) = m) := fun m x hm => by
      rw [← UInt8.toNat_inj, UInt8.toNat_ofNat']; omega
    rw [e _ a (by omega), e _ b (by omega)]
    omega
def clZ (z : ByteArray) : Int := if 97 ≤ bt z 0 ∧ bt z 0 ≤ 104 then (if 49 ≤ bt z 1 ∧ bt z 1 ≤ 56 then 8 * (bt z 1 - 49) + (bt z 0 - 97) else -1) else -1
theorem called_l (z : ByteArray) (hz : z.size = 2) : ∀ (d s k : Nat), s + d = 64 → d + 10 < k → (∀ j, j < s → prs j ≠ z.toList) → i_alfilref01_Called.l0 k z s = some (clZ z) := by
  intro d
  induction d with
  | zero =>
    intro s k hd hk hn
    obtain ⟨k, rfl⟩ : ∃ m, k = m + 1 := ⟨k - 1, by omega⟩
    rw [i_alfilref01_Called.l0, if_neg (by omega)]
    unfold clZ
    split
    · split
      · exfalso
        refine hn (8 * (bt z 1 - 49) + (bt z 0 - 97)).toNat (by omega) ((two_list hz (by omega)).mpr ?_)
        omega
      · rfl
    · rfl
  | succ d ih =>
    intro s k hd hk hn
    obtain ⟨k, rfl⟩ : ∃ m, k = m + 1 := ⟨k - 1, by omega⟩
    obtain ⟨u, hu, hp⟩ := rname_is (s := s) (by omega) (k := k) (by omega)
    rw [i_alfilref01_Called.l0, if_pos (by omega), hu]
    simp only [Option.bind_some]
    rw [hp]
    by_cases h : prs s = z.toList
    · rw [if_pos h]
      have := (two_list hz (by omega)).mp h
      unfold clZ
      rw [if_pos (by omega), if_pos (by omega)]
      congr 1; omega
    · rw [if_neg h, w64 (by omega) (by omega)]
      refine ih (s + 1) k (by omega) (by omega) (fun j hj => ?_)
      rcases (show j < s ∨ j = s by omega) with h' | rfl
      · exact hn j h'
      · exact h
theorem rsq_is (t : ByteArray) (a : Nat) (ht : t.size ≤ 1000) (ha : a ≤ t.size) {k : Nat} (hk : 80 < k) : i_alfilref14_Square.f k t a = some (sqZ t a) := by
  unfold i_alfilref14_Square.f sqZ
  rw [(there_t (t := t) (a := a) (by omega) (by omega)).2]
  simp only [Option.bind_some, if_true]
  by_cases he : a = t.size
  · rw [if_pos (by omega), if_pos he]
  · rw [if_neg (by omega), if_neg he, if_pos (by omega), if_pos (by omega), Int.toNat_natCast]
    by_cases h1 : bt t a < 97
    · rw [if_pos h1, if_neg (by omega)]
    · rw [if_neg h1]
      by_cases h2 : bt t a > 104
      · rw [if_pos h2, if_neg (by omega)]
      · rw [if_neg h2, if_pos (show 97 ≤ bt t a ∧ bt t a ≤ 104 by omega), w64 (x := (a : Int) + 1) (by omega) (by omega)]
        by_cases h3 : a + 1 = t.size
        · rw [if_pos (by omega), if_pos h3]
        · rw [if_neg (by omega), if_neg h3, w64 (x := (a : Int) + 2) (by omega) (by omega), if_pos (by omega), if_pos (by omega), show ((a : Int) + 2).toNat = a + 2 by omega]
          have hz : (t.extract a (a + 2)).size = 2 := by simp; omega
          have z0 := ext_lt t (a := a) (n := 2) (i := 0) (by omega)
          have z1 := ext_lt t (a := a) (n := 2) (i := 1) (by omega)
          have C := called_l _ hz 64 0 k (by omega) (by omega) (fun j hj => by omega)
          unfold i_alfilref01_Called.f
          rw [show ((0 : Nat) : Int) = 0 from rfl] at C
          rw [C]
          simp only [Option.bind_some]
          unfold clZ
          rw [z0, z1, Nat.add_zero, if_pos (show 97 ≤ bt t a ∧ bt t a ≤ 104 by omega)]
          by_cases h4 : 49 ≤ bt t (a + 1) ∧ bt t (a + 1) ≤ 56
          · rw [if_pos h4, if_pos h4, if_neg (by omega)]
          · rw [if_neg h4, if_neg h4, if_pos (by decide)]
theorem lnl (t : ByteArray) (a : Nat) (ht : t.size ≤ 1000) : ∀ (d i k : Nat), i + d = t.size → a ≤ i → d < k → ∀ v : Int, Lib.indexByte (t.data.toList.drop i) 10 = v →
    -1 ≤ v ∧ v < d + 1 ∧ i + v < t.size ∧ i_alfilref14_Read.l0 k t a i = some (if v < 0 then (t.extract a t.size, (t.size : Int), 0, 1) else (t.extract a (i + v).toNat, (i : Int) + v + 1, 0, 0)) := by
  intro d
  induction d with
  | zero =>
    intro i k hd ha hk v hv
    obtain ⟨k, rfl⟩ : ∃ m, k = m + 1 := ⟨k - 1, by omega⟩
    rw [List.drop_eq_nil_of_le (by simp; omega), Lib.indexByte] at hv
    subst hv
    rw [i_alfilref14_Read.l0, if_neg (by omega), if_pos (by omega), if_pos (by omega), Int.toNat_natCast]
    exact ⟨by omega, by omega, by omega, by rw [if_pos (by decide)]⟩
  | succ d ih =>
    intro i k hd ha hk v hv
    obtain ⟨k, rfl⟩ : ∃ m, k = m + 1 := ⟨k - 1, by omega⟩
    have hl : i < t.data.toList.length := by simp; omega
    have hb : bt t i = ((t.data.toList[i]).toNat : Int) := by unfold bt; rw [List.getD_eq_getElem?_getD, List.getElem?_eq_getElem hl]; rfl
    rw [List.drop_eq_getElem_cons hl, Lib.indexByte] at hv
    rw [i_alfilref14_Read.l0, if_pos (by omega), if_pos (by omega), Int.toNat_natCast]
    by_cases h : bt t i = 10
    · have : t.data.toList[i] = 10 := by apply UInt8.toNat_inj.1; show _ = 10; omega
      rw [this] at hv
      rw [if_pos (by decide)] at hv
      subst hv
      rw [if_pos h, if_pos (by omega), if_pos (by omega), if_pos (by omega), w64 (by omega) (by omega), Int.toNat_natCast]
      exact ⟨by omega, by omega, by omega, by rw [if_neg (by decide)]; simp⟩
    · have : ¬ ((t.data.toList[i] == 10) = true) := by
        intro e
        rw [beq_iff_eq] at e
        rw [e] at hb
        exact h hb
      rw [if_neg this] at hv
      obtain ⟨I1, I2, I3, I4⟩ := ih (i + 1) k (by omega) (by omega) (by omega) _ rfl
      rw [if_neg h, w64 (by omega) (by omega), show (i : Int) + 1 = ((i + 1 : Nat) : Int) by omega, I4]
      generalize Lib.indexByte (List.drop (i + 1) t.data.toList) 10 = q at hv I1 I2 I3
      by_cases hq : q = -1
      · rw [if_pos (by simpa using hq)] at hv
        subst hv
        exact ⟨by omega, by omega, by omega, by rw [if_pos (by omega), if_pos (by omega)]⟩
      · rw [if_neg (by simpa using hq)] at hv
        subst hv
        refine ⟨by omega, by omega, by omega, ?_⟩
        rw [if_neg (by omega), if_neg (by omega)]
        rw [show ((i + 1 : Nat) : Int) + q = (i : Int) + (q + 1) by omega]
theorem line_is (t : ByteArray) (a : Nat) (ht : t.size ≤ 1000) (ha : a ≤ t.size) {k : Nat} (hk : t.size < k) : ∃ r, i_lex_Line.f t a = some r ∧ i_alfilref14_Read.f k t a = some r := by
  unfold i_lex_Line.f i_alfilref14_Read.f
  rw [(there_t (t := t) (a := a) (by omega) (by omega)).1, (there_t (t := t) (a := a) (by omega) (by omega)).2]
  simp only [Option.bind_some, if_true]
  rw [if_pos (by omega), if_pos (by omega), Int.toNat_natCast]
  have hx : ixB (t.extract a t.size) 10 = Lib.indexByte (t.data.toList.drop a) 10 := by
    unfold ixB
    rw [show ((10 : Int).toNat.toUInt8) = (10 : UInt8) from rfl]
    congr 1
    have e : (t.extract a t.size).data.toList = (t.data.toList.take t.size).drop a := by
      simp [ByteArray.data_extract, List.drop_take]
    rw [e, List.take_of_length_le (by simp)]
  rw [hx]
  obtain ⟨I1, I2, I3, I4⟩ := lnl t a ht (t.size - a) a k (by omega) (by omega) (by omega) _ rfl
  rw [I4]
  generalize Lib.indexByte (List.drop a t.data.toList) 10 = v at I1 I2 I3
  by_cases hv : v < 0
  · rw [if_pos hv, if_pos hv]; exact ⟨_, rfl, rfl⟩
  · rw [if_neg hv, if_neg hv, w64 (x := (a : Int) + v) (by omega) (by omega), if_pos (by omega), if_pos (by omega), w64 (by omega) (by omega)]
    exact ⟨_, rfl, rfl⟩
theorem squares_is (t : ByteArray) (a : Int) : i_alfillaw14_LexSquares.f 30000 t a = some true := by
  unfold i_alfillaw14_LexSquares.f
  rw [wakes_is (by decide)]
  simp only [Option.bind_some, if_true]
  by_cases h : (t.size : Int) > 200
  · rw [if_pos h]
  · rw [if_neg h]
    by_cases hh : 0 ≤ a ∧ a ≤ t.size
    · obtain ⟨n, rfl⟩ : ∃ n : Nat, a = n := ⟨a.toNat, by omega⟩
      obtain ⟨r, e1, e2⟩ := line_is t n (by omega) (by omega) (k := 30000) (by omega)
      rw [e1, e2, rsq_is t n (by omega) (by omega) (by omega)]
      have e3 : i_lex_Square.f 30000 t n = some (sqZ t n) := by
        unfold i_lex_Square.f
        rw [(there_t (t := t) (a := n) (by omega) (by omega)).1]
        simp only [Option.bind_some, if_true]
        rw [if_pos (by omega), if_pos (by omega), lsq_is t n (by omega) (by omega) (by omega)]
      rw [e3]
      simp only [Option.bind_some]
      rw [if_pos eq3, if_pos trivial, if_pos eq3]
    · have T := there_f (t := t) hh
      unfold i_lex_Line.f i_alfilref14_Read.f i_lex_Square.f i_alfilref14_Square.f
      rw [T.1, T.2]
      simp only [Option.bind_some]
      unfold i_lex_wrong.f
      simp
theorem walk_LexSquares (t : ByteArray) (a : Int) (ht : t.size ≤ maxLen) (w : World) :
    Calls Try.prog 6 #[.string t, .int .i64 a] w fun e w' => e = .returned (.bool true) ∧ Below w.heap.size w w' :=
  i_alfillaw14_LexSquares.calls 30000 t a true w (squares_is t a)
end Go.Proofs.Ytabbkeliknidgaa
