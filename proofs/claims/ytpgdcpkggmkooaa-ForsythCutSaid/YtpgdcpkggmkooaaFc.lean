/- The law ForsythCut, in plain words. -/
import Derived.Test.YtpgdcpkggmkooaaFsh
import Derived.Test.YtpgdcpkggmkooaaF10w
namespace Go.Proofs.Ytpgdcpkggmkooaa
open Go.RowKit
set_option linter.unusedVariables false
set_option linter.unusedSimpArgs false
theorem run_eq {t u : ByteArray} : ∀ n : Nat, (∀ j, j < n → bt t j = bt u j) → runS t n = runS u n := by
  intro n
  induction n with
  | zero => intro _; rfl
  | succ n ih =>
    intro h
    show (runS t n).bind (stp (bt t n)) = (runS u n).bind (stp (bt u n))
    rw [ih (fun j hj => h j (by omega)), h n (by omega)]
theorem run_pre {t : ByteArray} {n d : Nat} {s : St} (h : runS t (n + d) = some s) : ∃ s', runS t n = some s' := by
  cases hx : runS t n with
  | none => rw [run_none t hx d] at h; cases h
  | some s' => exact ⟨s', rfl⟩
theorem full_none {c : Int} {s : St} (hi : Inv s) (hl : s.1.length = 64) : stp c s = none := by
  obtain ⟨l, r, f⟩ := s
  have ⟨h1, h2, h3, h4, h5, h6⟩ := hi
  simp only at h1 h2 h3 h4 h5 h6 hl
  have hr : r = 7 := by omega
  have hf : f = 8 := by omega
  unfold stp
  simp only
  (repeat' split) <;> first | rfl | omega
theorem rdF_fail {t : ByteArray} : ∀ (d D i : Nat), d < D → (∃ s, runS t (i + d) = some s) → runS t (i + d + 1) = none → rdF t D i = (zL, ((i + d : Nat) : Int), 2) := by
  intro d
  induction d with
  | zero =>
    intro D i hD hs hn
    obtain ⟨D, rfl⟩ : ∃ m, D = m + 1 := ⟨D - 1, by omega⟩
    rw [Nat.add_zero] at hn
    simp only [rdF, hn, Nat.add_zero]
  | succ d ih =>
    intro D i hD hs hn
    obtain ⟨D, rfl⟩ : ∃ m, D = m + 1 := ⟨D - 1, by omega⟩
    obtain ⟨s, hs⟩ := hs
    obtain ⟨s1, h1⟩ := run_pre (t := t) (n := i + 1) (d := d) (s := s) (by rw [show i + 1 + d = i + (d + 1) by omega]; exact hs)
    simp only [rdF, h1]
    have := ih D (i + 1) (by omega) ⟨s, by rw [show i + 1 + d = i + (d + 1) by omega]; exact hs⟩ (by rw [show i + 1 + d + 1 = i + (d + 1) + 1 by omega]; exact hn)
    rw [this, show i + 1 + d = i + (d + 1) by omega]
theorem cut_bt (t : ByteArray) {n i : Nat} (h : i < n) : bt (t.extract 0 n) i = bt t i := by
  unfold bt
  rw [ByteArray.data_extract, Array.toList_extract, List.getD_eq_getElem?_getD, List.getD_eq_getElem?_getD, List.extract_eq_take_drop, List.getElem?_take_of_lt (by omega), List.getElem?_drop, Nat.zero_add]
theorem wr_state {b : List Int} (hb : Men b) : ∃ s, runS (wrT b 7) (wrT b 7).size = some s ∧ s.1.length = 64 := by
  have h0 : runS (wrT b 7) 0 = some (stF b 7 0) := by
    show some (([] : List Int), (0 : Int), (0 : Int)) = _
    unfold stF; simp
  have h := run_wr hb (t := wrT b 7) 7 0 (by omega) (fun j hj => by rw [Nat.zero_add]) h0
  rw [Nat.zero_add] at h
  refine ⟨_, h, ?_⟩
  show ((bd b).take 64).length = 64
  rw [List.length_take, bd_len]; rfl
theorem read_cut {b : List Int} (hb : Men b) {n : Nat} (hn : n < (wrT b 7).size) : rdZ ((wrT b 7).extract 0 n) = (zL, (n : Int), 1) := by
  obtain ⟨s, hs, hl⟩ := wr_state hb
  have hsz : ((wrT b 7).extract 0 n).size = n := by simp; omega
  obtain ⟨s1, h1⟩ := run_pre (t := wrT b 7) (n := n + 1) (d := (wrT b 7).size - (n + 1)) (s := s) (by rw [show n + 1 + ((wrT b 7).size - (n + 1)) = (wrT b 7).size by omega]; exact hs)
  have h1' : (runS (wrT b 7) n).bind (stp (bt (wrT b 7) n)) = some s1 := h1
  obtain ⟨s0, h2, h3⟩ := Option.bind_eq_some_iff.mp h1'
  have hne : s0.1.length ≠ 64 := fun e => by rw [full_none (run_inv _ _ _ h2) e] at h3; cases h3
  have h4 : runS ((wrT b 7).extract 0 n) (0 + n) = some s0 := by
    rw [Nat.zero_add, run_eq n (fun j hj => cut_bt (wrT b 7) hj)]; exact h2
  unfold rdZ
  rw [hsz, rdF_some _ n 0 s0 h4, if_neg hne, Nat.zero_add]
theorem read_more {b : List Int} (hb : Men b) {u : ByteArray} (hu : u.size = 1) : rdZ (wrT b 7 ++ u) = (zL, ((wrT b 7).size : Int), 2) := by
  obtain ⟨s, hs, hl⟩ := wr_state hb
  have h1 : runS (wrT b 7 ++ u) (wrT b 7).size = some s := by
    rw [run_eq _ (fun j hj => btn_app (wrT b 7) u hj)]; exact hs
  have h2 : runS (wrT b 7 ++ u) ((wrT b 7).size + 1) = none := by
    show (runS (wrT b 7 ++ u) (wrT b 7).size).bind _ = none
    rw [h1, Option.bind_some]; exact full_none (run_inv _ _ _ hs) hl
  unfold rdZ
  have := rdF_fail (t := wrT b 7 ++ u) (wrT b 7).size (wrT b 7 ++ u).size 0 (by rw [sz_app]; omega) ⟨s, by rw [Nat.zero_add]; exact h1⟩ (by rw [Nat.zero_add]; exact h2)
  rw [this, Nat.zero_add]
theorem cut_is {b : List Int} (h : B8 b) {n : Int} (hn : 0 ≤ n ∧ n < 256) (c : Int) : i_alfillaw04_ForsythCut.f 10000 b n c = some true := by
  unfold i_alfillaw04_ForsythCut.f
  rw [fwakes_is (by decide)]
  simp only [Option.bind_some, if_true]
  rcases writes_are h (k := 10000) (by omega) with ⟨hb, e1, _⟩ | ⟨e1, _⟩
  · have hs := wr_size hb 7
    have hp : 0 < (wrT b 7).size := by
      have := wr_cost hb 7 (by omega)
      have hz : sumC (bd b) (8 * (7 - 7)) = 0 := rfl
      omega
    rw [e1]
    simp only [Option.bind_some]
    have m0 : 0 ≤ Int.tmod n ((wrT b 7).size : Int) := Int.tmod_nonneg _ hn.1
    have m1 : Int.tmod n ((wrT b 7).size : Int) < (wrT b 7).size := Int.tmod_lt_of_pos _ (by omega)
    rw [if_pos trivial, if_neg (by omega), w64 (x := n) (by omega) (by omega)]
    generalize Int.tmod n ((wrT b 7).size : Int) = m at m0 m1 ⊢
    obtain ⟨q, rfl⟩ : ∃ q : Nat, m = q := ⟨m.toNat, by omega⟩
    have hsz : ((wrT b 7).extract 0 q).size ≤ 1000 := by simp; omega
    rw [if_pos m0, if_pos (by omega), Int.toNat_natCast, read_is _ hsz (by omega), read_cut hb (by omega)]
    simp only [Option.bind_some]
    have hu : (strOfNums [c]).size = 1 := by rw [strOfNums_size]; rfl
    rw [if_pos (by omega), read_is _ (by rw [sz_app]; omega) (by rw [sz_app]; omega), read_more hb hu]
    simp
  · rw [e1]
    simp only [Option.bind_some]
    rw [if_neg (by decide)]
    decide +kernel
theorem u8_wf {n : Int} (h : (Lit.int .u8 n).wf = true) : 0 ≤ n ∧ n < 256 := by
  have : 0 ≤ n ∧ n ≤ 255 := by simpa [Lit.wf, IntKind.min, IntKind.max, IntKind.signed, IntKind.bits] using h
  omega
theorem walk_ForsythCut (b : List Int) (n c : Int) (h : B8 b) (hn : (Lit.int .u8 n).wf = true) (hc : (Lit.int .u8 c).wf = true) (w : World) : Calls Try.prog 11 #[.agg (bv b), .int .u8 n, .int .u8 c] w fun e w' => e = .returned (.bool true) ∧ Below w.heap.size w w' :=
  i_alfillaw04_ForsythCut.calls 10000 b n c h.1 true w (cut_is h (u8_wf hn) c)
end Go.Proofs.Ytpgdcpkggmkooaa
