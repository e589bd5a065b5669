/- The walks of package stip: its words, its reader. -/
import Derived.Test.YtabbkeliknidgaaProg
import Derived.Test.YtabbkeliknidgaaL1w
import Derived.Test.YtabbkeliknidgaaL2w
import Derived.Test.YtabbkeliknidgaaS2w
namespace Go.Proofs.Ytabbkeliknidgaa
open Go.RowKit
set_option linter.unusedVariables false
set_option linter.unusedSimpArgs false
theorem aT85_agg (w : World) : (isAgg 85).run Try.prog w = .ok true w := by kernel_rfl
theorem aT85_size (w : World) : (sizeOf 85).run Try.prog w = .ok 8 w := by kernel_rfl
theorem aT85_zero (w : World) : (zeroValue 85).run Try.prog w = .ok (.agg (av Value.string (List.replicate 8 (⟨#[]⟩ : ByteArray)))) w := by kernel_rfl
theorem aT85 : AggT Try.prog 85 8 (av Value.string (List.replicate 8 (⟨#[]⟩ : ByteArray))) := ⟨aT85_agg, aT85_size, aT85_zero, by first | rfl | decide⟩
theorem aT87_agg (w : World) : (isAgg 87).run Try.prog w = .ok true w := by kernel_rfl
theorem aT87_size (w : World) : (sizeOf 87).run Try.prog w = .ok 3 w := by kernel_rfl
theorem aT87_zero (w : World) : (zeroValue 87).run Try.prog w = .ok (.agg (av Value.string (List.replicate 3 (⟨#[]⟩ : ByteArray)))) w := by kernel_rfl
theorem aT87 : AggT Try.prog 87 3 (av Value.string (List.replicate 3 (⟨#[]⟩ : ByteArray))) := ⟨aT87_agg, aT87_size, aT87_zero, by first | rfl | decide⟩
def en43 (x : Int × Int × Int × Bool) : List Value := [.int .i64 x.1, .int .i64 x.2.1, .int .i64 x.2.2.1, .bool x.2.2.2]
theorem en43_len (x : Int × Int × Int × Bool) : (en43 x).length = 4 := rfl
theorem uT85 : Try.prog.underlying 85 = some (.array 8 9) := by kernel_rfl
theorem uT87 : Try.prog.underlying 87 = some (.array 3 9) := by kernel_rfl
theorem eT22_info : (Try.prog.info? 9).map (fun i => (i.zero, i.size, i.bytes)) = some (some (.string ⟨#[]⟩), 1, 16) := by kernel_rfl
theorem eT22 : ElemT Try.prog 22 9 16 := ⟨by kernel_rfl, by
  obtain ⟨i, h1, h2, h3, h4⟩ := info_parts eT22_info
  exact ⟨i, _, h1, h2, h3, h4, rfl⟩⟩
theorem eN74_info : (Try.prog.info? 43).map (fun i => (i.zero, i.size, i.bytes)) = some (some (.agg #[.int .i64 0, .int .i64 0, .int .i64 0, .bool false]), 4, 32) := by kernel_rfl
theorem eN74 : ElemN Try.prog 74 43 4 32 := ⟨by kernel_rfl, by
  obtain ⟨i, h1, h2, h3, h4⟩ := info_parts eN74_info
  exact ⟨i, _, h1, h2, h3, h4, rfl⟩, by decide⟩
theorem us74 : Try.prog.underlying 74 = some (.slice 43) := by kernel_rfl
/-! i_stip_kinds: function 73 -/
def i_stip_kinds.f  : Option ((List ByteArray)) := some [ByteArray.empty, (⟨#[]⟩ : ByteArray), (⟨#[115]⟩ : ByteArray), (⟨#[114]⟩ : ByteArray), (⟨#[115, 101, 109, 105, 45, 114]⟩ : ByteArray), (⟨#[104]⟩ : ByteArray), (⟨#[115, 101, 114, 45, 104]⟩ : ByteArray), (⟨#[115, 101, 114, 45]⟩ : ByteArray)]
set_option maxHeartbeats 40000000 in
set_option maxRecDepth 100000 in
theorem i_stip_kinds.calls (r1 : List ByteArray) (w : World) (h : i_stip_kinds.f = some r1) :
    Calls Try.prog 73 #[] w fun e w' => e = .returned (.agg (av Value.string r1)) ∧ r1.length = 8 ∧ Below w.heap.size w w' := by
  have HL := hid (Below.refl w.heap.size w)
  have H : (some [ByteArray.empty, (⟨#[]⟩ : ByteArray), (⟨#[115]⟩ : ByteArray), (⟨#[114]⟩ : ByteArray), (⟨#[115, 101, 109, 105, 45, 114]⟩ : ByteArray), (⟨#[104]⟩ : ByteArray), (⟨#[115, 101, 114, 45, 104]⟩ : ByteArray), (⟨#[115, 101, 114, 45]⟩ : ByteArray)]) = some r1 := h
  clear h
  obtain rfl := Option.some.inj H
  clear H
  go_enter Try.func73, Try.ntmps73
  go_wp2_with (first
    | ((with_reducible refine gate_d (N := 0) rfl ?_); obtain ⟨gb1727, hgb1727⟩ : ∃ g_, w.heap.size = g_ := ⟨_, rfl⟩; refine ag_alloc aT85 gb1727 hgb1727 rfl rfl ?_; intro w1728 hb_ hB_ hs_; have GEb1727 : Hid (w.heap.size ≤ gb1727) := hid (by have := HL.out.size; omega); replace HL := hid (HL.out.trans (hb_.mono GEb1727.out)); have BKb1727 := hid hB_; clear hb_ hB_ hs_ hgb1727)
    | ((with_reducible refine gate_d (N := 1) rfl ?_); refine ag_build (.agg (av Value.string [ByteArray.empty, (⟨#[]⟩ : ByteArray), (⟨#[115]⟩ : ByteArray), (⟨#[114]⟩ : ByteArray), (⟨#[115, 101, 109, 105, 45, 114]⟩ : ByteArray), (⟨#[104]⟩ : ByteArray), (⟨#[115, 101, 114, 45, 104]⟩ : ByteArray), (⟨#[115, 101, 114, 45]⟩ : ByteArray)])) _ rfl rfl ?_ ?_; (intro ww_; simp only [List.map_toArray, List.map_cons, List.map_nil]; kernel_rfl))
    | ((with_reducible refine gate_s (t := 85) (p := 0) rfl ?_); refine ag_store aT85 gb1727 0 (av Value.string (List.replicate 8 (⟨#[]⟩ : ByteArray))) (av Value.string [ByteArray.empty, (⟨#[]⟩ : ByteArray), (⟨#[115]⟩ : ByteArray), (⟨#[114]⟩ : ByteArray), (⟨#[115, 101, 109, 105, 45, 114]⟩ : ByteArray), (⟨#[104]⟩ : ByteArray), (⟨#[115, 101, 114, 45, 104]⟩ : ByteArray), (⟨#[115, 101, 114, 45]⟩ : ByteArray)]) (av Value.string [ByteArray.empty, (⟨#[]⟩ : ByteArray), (⟨#[115]⟩ : ByteArray), (⟨#[114]⟩ : ByteArray), (⟨#[115, 101, 109, 105, 45, 114]⟩ : ByteArray), (⟨#[104]⟩ : ByteArray), (⟨#[115, 101, 114, 45, 104]⟩ : ByteArray), (⟨#[115, 101, 114, 45]⟩ : ByteArray)]) BKb1727.out (by rw [show (av Value.string [ByteArray.empty, (⟨#[]⟩ : ByteArray), (⟨#[115]⟩ : ByteArray), (⟨#[114]⟩ : ByteArray), (⟨#[115, 101, 109, 105, 45, 114]⟩ : ByteArray), (⟨#[104]⟩ : ByteArray), (⟨#[115, 101, 114, 45, 104]⟩ : ByteArray), (⟨#[115, 101, 114, 45]⟩ : ByteArray)]) = av Value.string [ByteArray.empty, (⟨#[]⟩ : ByteArray), (⟨#[115]⟩ : ByteArray), (⟨#[114]⟩ : ByteArray), (⟨#[115, 101, 109, 105, 45, 114]⟩ : ByteArray), (⟨#[104]⟩ : ByteArray), (⟨#[115, 101, 114, 45, 104]⟩ : ByteArray), (⟨#[115, 101, 114, 45]⟩ : ByteArray)] from rfl, av_size]; exact (by first | rfl | (simp only [List.length_set, List.length_replicate, zL_len, List.length_cons, List.length_nil]; done) | (simp [zL_len]; done))) (av_le (by first | rfl | (simp only [List.length_set, List.length_replicate, zL_len, List.length_cons, List.length_nil]; done) | (simp [zL_len]; done))) (av_one (fun _ => rfl)) (av_put (by first | rfl | (simp only [List.length_set, List.length_replicate, zL_len, List.length_cons, List.length_nil]; done) | (simp [zL_len]; done)) (by first | rfl | (simp only [List.length_set, List.length_replicate, zL_len, List.length_cons, List.length_nil]; done) | (simp [zL_len]; done))) rfl _ _ rfl rfl rfl ?_; intro w1729 ho_ hB_; replace HL := hid (ho_.below HL.out GEb1727.out); replace BKb1727 := hid hB_; clear ho_ hB_))
  (try simp only [Act.put, List.setIfInBounds_toArray, List.set_cons_zero, List.set_cons_succ])
  refine bodyPost_ret (v := .agg (av Value.string [ByteArray.empty, (⟨#[]⟩ : ByteArray), (⟨#[115]⟩ : ByteArray), (⟨#[114]⟩ : ByteArray), (⟨#[115, 101, 109, 105, 45, 114]⟩ : ByteArray), (⟨#[104]⟩ : ByteArray), (⟨#[115, 101, 114, 45, 104]⟩ : ByteArray), (⟨#[115, 101, 114, 45]⟩ : ByteArray)])) (res_c aT85 rfl _ gb1727 (av Value.string [ByteArray.empty, (⟨#[]⟩ : ByteArray), (⟨#[115]⟩ : ByteArray), (⟨#[114]⟩ : ByteArray), (⟨#[115, 101, 109, 105, 45, 114]⟩ : ByteArray), (⟨#[104]⟩ : ByteArray), (⟨#[115, 101, 114, 45, 104]⟩ : ByteArray), (⟨#[115, 101, 114, 45]⟩ : ByteArray)]) BKb1727.out (by rw [show (av Value.string [ByteArray.empty, (⟨#[]⟩ : ByteArray), (⟨#[115]⟩ : ByteArray), (⟨#[114]⟩ : ByteArray), (⟨#[115, 101, 109, 105, 45, 114]⟩ : ByteArray), (⟨#[104]⟩ : ByteArray), (⟨#[115, 101, 114, 45, 104]⟩ : ByteArray), (⟨#[115, 101, 114, 45]⟩ : ByteArray)]) = av Value.string [ByteArray.empty, (⟨#[]⟩ : ByteArray), (⟨#[115]⟩ : ByteArray), (⟨#[114]⟩ : ByteArray), (⟨#[115, 101, 109, 105, 45, 114]⟩ : ByteArray), (⟨#[104]⟩ : ByteArray), (⟨#[115, 101, 114, 45, 104]⟩ : ByteArray), (⟨#[115, 101, 114, 45]⟩ : ByteArray)] from rfl, av_size]; exact (by first | rfl | (simp only [List.length_set, List.length_replicate, zL_len, List.length_cons, List.length_nil]; done) | (simp [zL_len]; done))) rfl) rfl ?_
  exact ⟨by first | rfl | (simp; done) | (simp [*]; done), (by first | rfl | (simp only [List.length_set, List.length_replicate, zL_len, List.length_cons, List.length_nil]; done) | (simp [zL_len]; done)), HL.out⟩
/-! i_stip_goals: function 74 -/
def i_stip_goals.f  : Option ((List ByteArray)) := some [ByteArray.empty, (⟨#[35]⟩ : ByteArray), (⟨#[61]⟩ : ByteArray)]
set_option maxHeartbeats 40000000 in
set_option maxRecDepth 100000 in
theorem i_stip_goals.calls (r1 : List ByteArray) (w : World) (h : i_stip_goals.f = some r1) :
    Calls Try.prog 74 #[] w fun e w' => e = .returned (.agg (av Value.string r1)) ∧ r1.length = 3 ∧ Below w.heap.size w w' := by
  have HL := hid (Below.refl w.heap.size w)
  have H : (some [ByteArray.empty, (⟨#[35]⟩ : ByteArray), (⟨#[61]⟩ : ByteArray)]) = some r1 := h
  clear h
  obtain rfl := Option.some.inj H
  clear H
  go_enter Try.func74, Try.ntmps74
  go_wp2_with (first
    | ((with_reducible refine gate_d (N := 0) rfl ?_); obtain ⟨gb1730, hgb1730⟩ : ∃ g_, w.heap.size = g_ := ⟨_, rfl⟩; refine ag_alloc aT87 gb1730 hgb1730 rfl rfl ?_; intro w1731 hb_ hB_ hs_; have GEb1730 : Hid (w.heap.size ≤ gb1730) := hid (by have := HL.out.size; omega); replace HL := hid (HL.out.trans (hb_.mono GEb1730.out)); have BKb1730 := hid hB_; clear hb_ hB_ hs_ hgb1730)
    | ((with_reducible refine gate_d (N := 1) rfl ?_); refine ag_build (.agg (av Value.string [ByteArray.empty, (⟨#[35]⟩ : ByteArray), (⟨#[61]⟩ : ByteArray)])) _ rfl rfl ?_ ?_; (intro ww_; simp only [List.map_toArray, List.map_cons, List.map_nil]; kernel_rfl))
    | ((with_reducible refine gate_s (t := 87) (p := 0) rfl ?_); refine ag_store aT87 gb1730 0 (av Value.string (List.replicate 3 (⟨#[]⟩ : ByteArray))) (av Value.string [ByteArray.empty, (⟨#[35]⟩ : ByteArray), (⟨#[61]⟩ : ByteArray)]) (av Value.string [ByteArray.empty, (⟨#[35]⟩ : ByteArray), (⟨#[61]⟩ : ByteArray)]) BKb1730.out (by rw [show (av Value.string [ByteArray.empty, (⟨#[35]⟩ : ByteArray), (⟨#[61]⟩ : ByteArray)]) = av Value.string [ByteArray.empty, (⟨#[35]⟩ : ByteArray), (⟨#[61]⟩ : ByteArray)] from rfl, av_size]; exact (by first | rfl | (simp only [List.length_set, List.length_replicate, zL_len, List.length_cons, List.length_nil]; done) | (simp [zL_len]; done))) (av_le (by first | rfl | (simp only [List.length_set, List.length_replicate, zL_len, List.length_cons, List.length_nil]; done) | (simp [zL_len]; done))) (av_one (fun _ => rfl)) (av_put (by first | rfl | (simp only [List.length_set, List.length_replicate, zL_len, List.length_cons, List.length_nil]; done) | (simp [zL_len]; done)) (by first | rfl | (simp only [List.length_set, List.length_replicate, zL_len, List.length_cons, List.length_nil]; done) | (simp [zL_len]; done))) rfl _ _ rfl rfl rfl ?_; intro w1732 ho_ hB_; replace HL := hid (ho_.below HL.out GEb1730.out); replace BKb1730 := hid hB_; clear ho_ hB_))
  (try simp only [Act.put, List.setIfInBounds_toArray, List.set_cons_zero, List.set_cons_succ])
  refine bodyPost_ret (v := .agg (av Value.string [ByteArray.empty, (⟨#[35]⟩ : ByteArray), (⟨#[61]⟩ : ByteArray)])) (res_c aT87 rfl _ gb1730 (av Value.string [ByteArray.empty, (⟨#[35]⟩ : ByteArray), (⟨#[61]⟩ : ByteArray)]) BKb1730.out (by rw [show (av Value.string [ByteArray.empty, (⟨#[35]⟩ : ByteArray), (⟨#[61]⟩ : ByteArray)]) = av Value.string [ByteArray.empty, (⟨#[35]⟩ : ByteArray), (⟨#[61]⟩ : ByteArray)] from rfl, av_size]; exact (by first | rfl | (simp only [List.length_set, List.length_replicate, zL_len, List.length_cons, List.length_nil]; done) | (simp [zL_len]; done))) rfl) rfl ?_
  exact ⟨by first | rfl | (simp; done) | (simp [*]; done), (by first | rfl | (simp only [List.length_set, List.length_replicate, zL_len, List.length_cons, List.length_nil]; done) | (simp [zL_len]; done)), HL.out⟩
/-! i_stip_words: function 48 -/
mutual
def i_stip_words.l0 : Nat → List ByteArray → List (Int × Int × Int × Bool) → Int → Option ((List ByteArray) × (List (Int × Int × Int × Bool)))
  | 0, _, _, _ => none
  | k + 1, x2_0, x3_0, x6_0 => if x6_0 < 8 then (i_stip_words.l1 k x6_0 x2_0 x3_0 0) else (if x2_0.length < 8796093022208 then (if x3_0.length < 4398046511104 then (some (x2_0 ++ [(⟨#[100, 105, 97, 32]⟩ : ByteArray)], x3_0 ++ [(8, 0, 0, false)])) else (none)) else (none))
def i_stip_words.l1 : Nat → Int → List ByteArray → List (Int × Int × Int × Bool) → Int → Option ((List ByteArray) × (List (Int × Int × Int × Bool)))
  | 0, _, _, _, _ => none
  | k + 1, x6_0, x2_1, x3_1, x9_1 => if x9_1 < 3 then (if x6_0 > 0 then (if x9_1 > 0 then ((i_stip_kinds.f).bind fun t1755 => (if 0 ≤ x6_0 then (if x6_0 < 8 then ((i_stip_goals.f).bind fun t1756 => (if 0 ≤ x9_1 then (if (nt t1755 x6_0.toNat ByteArray.empty).size + (nt t1756 x9_1.toNat ByteArray.empty).size ≤ 9223372036854775807 then (if x2_1.length < 8796093022208 then (if x3_1.length < 4398046511104 then (i_stip_words.l1 k x6_0 (x2_1 ++ [(nt t1755 x6_0.toNat ByteArray.empty) ++ (nt t1756 x9_1.toNat ByteArray.empty)]) (x3_1 ++ [(x6_0, x9_1, 0, false)]) (wrap64 (x9_1 + 1))) else (none)) else (none)) else (none)) else (none))) else (none)) else (none))) else (i_stip_words.l1 k x6_0 x2_1 x3_1 (wrap64 (x9_1 + 1)))) else (i_stip_words.l1 k x6_0 x2_1 x3_1 (wrap64 (x9_1 + 1)))) else (i_stip_words.l0 k x2_1 x3_1 (wrap64 (x6_0 + 1)))
end
def i_stip_words.f (k : Nat)  : Option ((List ByteArray) × (List (Int × Int × Int × Bool))) := i_stip_words.l0 k ([] : List ByteArray) ([] : List (Int × Int × Int × Bool)) 0
def i_stip_words.post (r1 : List ByteArray) (r2 : List (Int × Int × Int × Bool)) (w : World) (e : Ending) (w' : World) : Prop := ∃ (u_r1 u_r2 : Value), e = .returned (.tuple #[u_r1, u_r2]) ∧ Own w' w.heap.size 9 (u_r1) (r1.map Value.string) ∧ OwnN w' w.heap.size 43 4 (u_r2) r2.length (r2.flatMap en43) ∧ Below w.heap.size w w'
set_option maxHeartbeats 40000000 in
set_option maxRecDepth 100000 in
theorem i_stip_words.calls (k : Nat) (r1 : List ByteArray) (r2 : List (Int × Int × Int × Bool)) (w : World) (h : i_stip_words.f k = some (r1, r2)) :
    Calls Try.prog 48 #[] w (i_stip_words.post r1 r2 w) := by
  have HL := hid (Below.refl w.heap.size w)
  have H : (i_stip_words.l0 k ([] : List ByteArray) ([] : List (Int × Int × Int × Bool)) 0) = some (r1, r2) := h
  clear h
  have H' := hid H
  clear H
  go_enter Try.func48, Try.ntmps48
  go_wp2_with fail
  (try simp only [Act.put, List.setIfInBounds_toArray, List.set_cons_zero, List.set_cons_succ])
  go_loopg [2, 3, 6] k (fun kq v2 v3 v6 w' => ∃ (x2_0 : List ByteArray) (ux2_0 : Value) (x3_0 : List (Int × Int × Int × Bool)) (ux3_0 : Value) (x6_0 : Int), ux2_0 = v2 ∧ ux3_0 = v3 ∧ v6 = .int .i64 x6_0 ∧ Hid (i_stip_words.l0 kq x2_0 x3_0 x6_0 = some (r1, r2)) ∧ Hid (kq ≤ k) ∧ Hid (Own w' w.heap.size 9 (ux2_0) (x2_0.map Value.string)) ∧ Hid (OwnN w' w.heap.size 43 4 (ux3_0) x3_0.length (x3_0.flatMap en43)) ∧ Hid (Below w.heap.size w w'))
  case atStart => exact ⟨([] : List ByteArray), (.slice none 0 0), ([] : List (Int × Int × Int × Bool)), (.slice none 0 0), (0 : Int), (by first | rfl | (simp; done) | (simp [*]; done)), (by first | rfl | (simp; done) | (simp [*]; done)), (by first | rfl | (simp; done) | (simp [*]; done)), H', (hid (by first | omega | (omega))), (hid (Own.nil _ _ _)), (hid (OwnN.nil _ _ _ _)), HL⟩
  case round =>
    clear H'
    clear HL
    obtain ⟨x2_0, ux2_0, x3_0, ux3_0, x6_0, rfl, rfl, rfl, HA, HK1765, SWx2_0, SWx3_0, HL⟩ := hrel
    cases gk with
    | zero => exact absurd HA.out (by simp [i_stip_words.l0])
    | succ k1766 =>
      have H := HA.out
      clear HA
      simp only [i_stip_words.l0] at H
      by_cases c1767 : x6_0 < 8
      · rw [if_pos c1767] at H
        have c1767b0 : decide (x6_0 < 8) = true := decide_eq_true c1767
        have hc1767 := hid c1767
        clear c1767
        have H' := hid H
        clear H
        go_wp2_with fail
        (try simp only [Act.put, List.setIfInBounds_toArray, List.set_cons_zero, List.set_cons_succ])
        go_loopg [2, 3, 9] k1766 (fun kq v2 v3 v9 w' => ∃ (x2_1 : List ByteArray) (ux2_1 : Value) (x3_1 : List (Int × Int × Int × Bool)) (ux3_1 : Value) (x9_1 : Int), ux2_1 = v2 ∧ ux3_1 = v3 ∧ v9 = .int .i64 x9_1 ∧ Hid (i_stip_words.l1 kq x6_0 x2_1 x3_1 x9_1 = some (r1, r2)) ∧ Hid (kq ≤ k1766) ∧ Hid (Own w' w.heap.size 9 (ux2_1) (x2_1.map Value.string)) ∧ Hid (OwnN w' w.heap.size 43 4 (ux3_1) x3_1.length (x3_1.flatMap en43)) ∧ Hid (Below w.heap.size w w'))
        case atStart => exact ⟨x2_0, (ux2_0), x3_0, (ux3_0), (0 : Int), (by first | rfl | (simp; done) | (simp [*]; done)), (by first | rfl | (simp; done) | (simp [*]; done)), (by first | rfl | (simp; done) | (simp [*]; done)), H', (hid (by first | omega | (have := HK1765.out; omega))), SWx2_0, SWx3_0, HL⟩
        case round =>
          clear H'
          clear HL SWx2_0 SWx3_0
          obtain ⟨x2_1, ux2_1, x3_1, ux3_1, x9_1, rfl, rfl, rfl, HA, HK1768, SWx2_1, SWx3_1, HL⟩ := hrel
          cases gk with
          | zero => exact absurd HA.out (by simp [i_stip_words.l1])
          | succ k1769 =>
            have H := HA.out
            clear HA
            simp only [i_stip_words.l1] at H
            by_cases c1770 : x9_1 < 3
            · rw [if_pos c1770] at H
              have c1770b0 : decide (x9_1 < 3) = true := decide_eq_true c1770
              have hc1770 := hid c1770
              clear c1770
              by_cases c1771 : x6_0 > 0
              · rw [if_pos c1771] at H
                have c1771b0 : decide (0 < x6_0) = true := decide_eq_true c1771
                have hc1771 := hid c1771
                clear c1771
                by_cases c1772 : x9_1 > 0
                · rw [if_pos c1772] at H
                  have c1772b0 : decide (0 < x9_1) = true := decide_eq_true c1772
                  have hc1772 := hid c1772
                  clear c1772
                  replace H := Option.bind_eq_some_iff.mp H
                  obtain ⟨t1755, A1773_, H⟩ := H
                  replace H : (if 0 ≤ x6_0 then (if x6_0 < 8 then ((i_stip_goals.f).bind fun t1756 => (if 0 ≤ x9_1 then (if (nt t1755 x6_0.toNat ByteArray.empty).size + (nt t1756 x9_1.toNat ByteArray.empty).size ≤ 9223372036854775807 then (if x2_1.length < 8796093022208 then (if x3_1.length < 4398046511104 then (i_stip_words.l1 k1769 x6_0 (x2_1 ++ [(nt t1755 x6_0.toNat ByteArray.empty) ++ (nt t1756 x9_1.toNat ByteArray.empty)]) (x3_1 ++ [(x6_0, x9_1, 0, false)]) (wrap64 (x9_1 + 1))) else (none)) else (none)) else (none)) else (none))) else (none)) else (none)) = some (r1, r2) := H
                  have A1773 := hid A1773_
                  clear A1773_
                  by_cases c1774 : 0 ≤ x6_0
                  · rw [if_pos c1774] at H
                    have c1774b0 : decide (0 ≤ x6_0) = true := decide_eq_true c1774
                    have hc1774 := hid c1774
                    clear c1774
                    by_cases c1775 : x6_0 < 8
                    · rw [if_pos c1775] at H
                      have c1775b0 : decide (x6_0 < 8) = true := decide_eq_true c1775
                      have hc1775 := hid c1775
                      clear c1775
                      replace H := Option.bind_eq_some_iff.mp H
                      obtain ⟨t1756, A1776_, H⟩ := H
                      replace H : (if 0 ≤ x9_1 then (if (nt t1755 x6_0.toNat ByteArray.empty).size + (nt t1756 x9_1.toNat ByteArray.empty).size ≤ 9223372036854775807 then (if x2_1.length < 8796093022208 then (if x3_1.length < 4398046511104 then (i_stip_words.l1 k1769 x6_0 (x2_1 ++ [(nt t1755 x6_0.toNat ByteArray.empty) ++ (nt t1756 x9_1.toNat ByteArray.empty)]) (x3_1 ++ [(x6_0, x9_1, 0, false)]) (wrap64 (x9_1 + 1))) else (none)) else (none)) else (none)) else (none)) = some (r1, r2) := H
                      have A1776 := hid A1776_
                      clear A1776_
                      by_cases c1777 : 0 ≤ x9_1
                      · rw [if_pos c1777] at H
                        have c1777b0 : decide (0 ≤ x9_1) = true := decide_eq_true c1777
                        have hc1777 := hid c1777
                        clear c1777
                        by_cases c1778 : (nt t1755 x6_0.toNat ByteArray.empty).size + (nt t1756 x9_1.toNat ByteArray.empty).size ≤ 9223372036854775807
                        · rw [if_pos c1778] at H
                          have hc1778 := hid c1778
                          clear c1778
                          by_cases c1779 : x2_1.length < 8796093022208
                          · rw [if_pos c1779] at H
                            have c1779b0 : decide (x2_1.length < 8796093022208) = true := decide_eq_true c1779
                            have hc1779 := hid c1779
                            clear c1779
                            by_cases c1780 : x3_1.length < 4398046511104
                            · rw [if_pos c1780] at H
                              have c1780b0 : decide (x3_1.length < 4398046511104) = true := decide_eq_true c1780
                              have hc1780 := hid c1780
                              clear c1780
                              have H' := hid H
                              clear H
                              go_wp2_with fail
                              (try simp only [Act.put, List.setIfInBounds_toArray, List.set_cons_zero, List.set_cons_succ])
                              have WR64 := i64_w
                              have WR32 := i32_w
                              refine sq_region (fun w'_ => Below w.heap.size w w'_ ∧ OwnN w'_ w.heap.size 43 4 (ux3_1) x3_1.length (x3_1.flatMap en43) ∧ True) [] [(0, true), (2, true), (5, true), (1, false), (3, true), (4, false), (6, true), (7, true), (8, false), (9, false), (10, true)] (by kernel_rfl) (by kernel_rfl) (by kernel_rfl) rfl ?_
                              intro w1781 hb_
                              replace SWx2_1 := hid (SWx2_1.out.below hb_)
                              replace SWx3_1 := hid (SWx3_1.out.below hb_)
                              replace HL := hid (HL.out.trans (hb_.mono HL.out.size))
                              clear hb_
                              refine sq_take (ux2_1) ⟨HL.out, SWx3_1.out, trivial⟩ rfl (fun w'_ hS_ => ex_mv (.tmp 2) (.inl rfl) _ rfl) rfl rfl ?_
                              intro ts_ ht_; simp only [List.setIfInBounds_toArray, List.set_cons_zero, List.set_cons_succ] at ht_; subst ht_
                              refine sq_take (.int .i64 x6_0) ⟨HL.out, SWx3_1.out, trivial⟩ rfl (fun w'_ hS_ => ex_mv (.tmp 4) (.inl rfl) _ rfl) rfl rfl ?_
                              intro ts_ ht_; simp only [List.setIfInBounds_toArray, List.set_cons_zero, List.set_cons_succ] at ht_; subst ht_
                              refine sq_take (.int .i64 x9_1) ⟨HL.out, SWx3_1.out, trivial⟩ rfl (fun w'_ hS_ => ex_mv (.tmp 5) (.inl rfl) _ rfl) rfl rfl ?_
                              intro ts_ ht_; simp only [List.setIfInBounds_toArray, List.set_cons_zero, List.set_cons_succ] at ht_; subst ht_
                              refine sq_act rfl (fun Q'_ hQ_ => ?_)
                              refine wl_call 73 #[] (by go_simp) rfl ((i_stip_kinds.calls t1755 _ A1773.out).mono ?_)
                              rintro e_ w1783 ⟨rfl, ln_t1755, hb_⟩
                              have LN_t1755 := hid ln_t1755
                              clear ln_t1755
                              replace SWx2_1 := hid (SWx2_1.out.below hb_)
                              replace SWx3_1 := hid (SWx3_1.out.below hb_)
                              replace HL := hid (HL.out.trans (hb_.mono HL.out.size))
                              clear hb_
                              refine ⟨_, rfl, ?_⟩
                              refine hQ_ _ _ (fun _ => ⟨HL.out, SWx3_1.out, trivial⟩) ?_
                              clear hQ_ Q'_
                              simp only [Act.put, List.setIfInBounds_toArray, List.set_cons_zero, List.set_cons_succ]
                              refine sq_take (.string (nt t1755 x6_0.toNat ByteArray.empty)) ⟨HL.out, SWx3_1.out, trivial⟩ rfl (fun w'_ hS_ => ex_ix 85 (.agg (av Value.string t1755)) (.int .i64 x6_0) (.string (nt t1755 x6_0.toNat ByteArray.empty)) (fun w_ => run_ixv 9 uT85 sT9 t1755 (by first | rfl | (simp only [List.length_set, List.length_replicate, zL_len, List.length_cons, List.length_nil, LN_t1755.out]; done) | (simp [zL_len, LN_t1755.out]; done)) ByteArray.empty x6_0 hc1774.out hc1775.out w_) _ _ rfl rfl rfl) rfl rfl ?_
                              intro ts_ ht_; simp only [List.setIfInBounds_toArray, List.set_cons_zero, List.set_cons_succ] at ht_; subst ht_
                              refine sq_act rfl (fun Q'_ hQ_ => ?_)
                              refine wl_call 74 #[] (by go_simp) rfl ((i_stip_goals.calls t1756 _ A1776.out).mono ?_)
                              rintro e_ w1785 ⟨rfl, ln_t1756, hb_⟩
                              have LN_t1756 := hid ln_t1756
                              clear ln_t1756
                              replace SWx2_1 := hid (SWx2_1.out.below hb_)
                              replace SWx3_1 := hid (SWx3_1.out.below hb_)
                              replace HL := hid (HL.out.trans (hb_.mono HL.out.size))
                              clear hb_
                              refine ⟨_, rfl, ?_⟩
                              refine hQ_ _ _ (fun _ => ⟨HL.out, SWx3_1.out, trivial⟩) ?_
                              clear hQ_ Q'_
                              simp only [Act.put, List.setIfInBounds_toArray, List.set_cons_zero, List.set_cons_succ]
                              refine sq_take (.string (nt t1756 x9_1.toNat ByteArray.empty)) ⟨HL.out, SWx3_1.out, trivial⟩ rfl (fun w'_ hS_ => ex_ix 87 (.agg (av Value.string t1756)) (.int .i64 x9_1) (.string (nt t1756 x9_1.toNat ByteArray.empty)) (fun w_ => run_ixv 9 uT87 sT9 t1756 (by first | rfl | (simp only [List.length_set, List.length_replicate, zL_len, List.length_cons, List.length_nil, LN_t1755.out, LN_t1756.out]; done) | (simp [zL_len, LN_t1755.out, LN_t1756.out]; done)) ByteArray.empty x9_1 hc1777.out hc1770.out w_) _ _ rfl rfl rfl) rfl rfl ?_
                              intro ts_ ht_; simp only [List.setIfInBounds_toArray, List.set_cons_zero, List.set_cons_succ] at ht_; subst ht_
                              refine sq_take (.string ((nt t1755 x6_0.toNat ByteArray.empty) ++ (nt t1756 x9_1.toNat ByteArray.empty))) ⟨HL.out, SWx3_1.out, trivial⟩ rfl (fun w'_ hS_ => ex_cat 9 (nt t1755 x6_0.toNat ByteArray.empty) (nt t1756 x9_1.toNat ByteArray.empty) hc1778.out _ _ _ rfl rfl rfl) rfl rfl ?_
                              intro ts_ ht_; simp only [List.setIfInBounds_toArray, List.set_cons_zero, List.set_cons_succ] at ht_; subst ht_
                              refine sq_act rfl (fun Q'_ hQ_ => ?_)
                              (with_reducible refine gate_d (N := 26) rfl ?_)
                              obtain ⟨gb1757, hgb1757⟩ : ∃ g_, w1785.heap.size = g_ := ⟨_, rfl⟩
                              refine ag_lit sT9 (.string ((nt t1755 x6_0.toNat ByteArray.empty) ++ (nt t1756 x9_1.toNat ByteArray.empty))) gb1757 hgb1757 rfl _ rfl rfl (fun w_ => by kernel_rfl) ?_
                              intro w1786 hb_ hB_ hs_
                              have GEb1757 : Hid (w.heap.size ≤ gb1757) := hid (by have := HL.out.size; omega)
                              replace SWx2_1 := hid (SWx2_1.out.below (by rw [hgb1757]; exact hb_))
                              replace SWx3_1 := hid (SWx3_1.out.below (by rw [hgb1757]; exact hb_))
                              replace HL := hid (HL.out.trans (hb_.mono GEb1757.out))
                              have BKb1757 := hid hB_
                              clear hb_ hB_ hs_ hgb1757
                              refine act_end ?_
                              refine hQ_ _ _ (fun _ => ⟨HL.out, SWx3_1.out, trivial⟩) ?_
                              clear hQ_ Q'_
                              simp only [Act.put, List.setIfInBounds_toArray, List.set_cons_zero, List.set_cons_succ]
                              refine sq_act rfl (fun Q'_ hQ_ => ?_)
                              refine app_one eT22 w.heap.size (ux2_1) (x2_1.map Value.string) (.string ((nt t1755 x6_0.toNat ByteArray.empty) ++ (nt t1756 x9_1.toNat ByteArray.empty))) gb1757 1 SWx2_1.out BKb1757.out rfl (by have h_ := hc1779.out; rw [List.length_map]; omega) (by have h_ := hc1779.out; rw [List.length_map]; unfold maxLen; omega) HL.out.size rfl _ _ rfl rfl rfl ?_
                              intro uo1758 w1787 ho_ hb_ hk_ hi_
                              clear SWx2_1
                              have SWo1758 : Hid (Own w1787 w.heap.size 9 (uo1758) ((x2_1 ++ [(nt t1755 x6_0.toNat ByteArray.empty) ++ (nt t1756 x9_1.toNat ByteArray.empty)]).map Value.string)) := hid (by rw [List.map_append]; exact ho_)
                              replace SWx3_1 := hid (SWx3_1.out.move fun g_ cs_ _ hh_ => hk_ g_ _ cs_ (by decide) hh_)
                              replace HL := hid (HL.out.trans hb_)
                              clear ho_ hb_ hk_ hi_ BKb1757
                              refine act_end ?_
                              refine hQ_ _ _ (fun _ => ⟨HL.out, SWx3_1.out, trivial⟩) ?_
                              clear hQ_ Q'_
                              simp only [Act.put, List.setIfInBounds_toArray, List.set_cons_zero, List.set_cons_succ]
                              refine sq_take (uo1758) ⟨HL.out, SWx3_1.out, trivial⟩ rfl (fun w'_ hS_ => ex_mv (.tmp 27) (.inr rfl) _ rfl) rfl rfl ?_
                              intro ts_ ht_; simp only [List.setIfInBounds_toArray, List.set_cons_zero, List.set_cons_succ] at ht_; subst ht_
                              refine sq_end ?_
                              clear WR64 WR32
                              have k1791 := True.intro
                              go_wp2_with (first
                                | ((with_reducible refine gate_d (N := 31) rfl ?_); refine ag_build (.agg #[.int .i64 x6_0, .int .i64 x9_1, .int .i64 0, .bool false]) _ rfl rfl ?_ ?_; (intro ww_; simp only [List.map_toArray, List.map_cons, List.map_nil]; kernel_rfl))
                                | ((with_reducible refine gate_d (N := 32) rfl ?_); obtain ⟨gb1759, hgb1759⟩ : ∃ g_, w1787.heap.size = g_ := ⟨_, rfl⟩; refine ag_litA (e := 43) 1 #[.int .i64 x6_0, .int .i64 x9_1, .int .i64 0, .bool false] gb1759 hgb1759 rfl _ rfl (fun w_ => by (try simp only [List.map_toArray, List.map_cons, List.map_nil]); kernel_rfl) ?_; intro w1789 hb_ hB_ hs_; have GEb1759 : Hid (w.heap.size ≤ gb1759) := hid (by have := HL.out.size; omega); replace SWx3_1 := hid (SWx3_1.out.below (by rw [hgb1759]; exact hb_)); replace SWo1758 := hid (SWo1758.out.below (by rw [hgb1759]; exact hb_)); replace HL := hid (HL.out.trans (hb_.mono GEb1759.out)); have BKb1759 := hid hB_; clear hb_ hB_ hs_ hgb1759)
                                | (at_builtin; clear k1791; refine app_n (len := x3_1.length) eN74 w.heap.size (ux3_1) (x3_1.flatMap en43) (en43 (x6_0, x9_1, 0, false)) gb1759 1 SWx3_1.out BKb1759.out rfl (by intro u_ hu_; simp [en43] at hu_; rcases hu_ with rfl | rfl | rfl | rfl <;> rfl) (by have h_ := hc1780.out; omega) (by have h_ := hc1780.out; unfold maxLen; omega) HL.out.size rfl _ _ rfl rfl rfl ?_; intro uo1760 w1790 ho_ hb_ hk_ hi_; clear SWx3_1; have SWo1760 : Hid (OwnN w1790 w.heap.size 43 4 (uo1760) (x3_1 ++ [(x6_0, x9_1, 0, false)]).length ((x3_1 ++ [(x6_0, x9_1, 0, false)]).flatMap en43)) := hid (OwnN.snoc ho_); replace SWo1758 := hid (SWo1758.out.move fun g_ cs_ _ hh_ => hk_ g_ _ cs_ (by decide) hh_); replace HL := hid (HL.out.trans hb_); clear ho_ hb_ hk_ hi_ BKb1759))
                              (try simp only [Act.put, List.setIfInBounds_toArray, List.set_cons_zero, List.set_cons_succ])
                              go_roundg k1769
                              case measure => have := HK1765.out; have := HK1768.out; omega
                              case rel => exact ⟨x2_1 ++ [(nt t1755 x6_0.toNat ByteArray.empty) ++ (nt t1756 x9_1.toNat ByteArray.empty)], (uo1758), x3_1 ++ [(x6_0, x9_1, 0, false)], (uo1760), wrap64 (x9_1 + 1), (by first | rfl | (simp; done) | (simp [*]; done)), (by first | rfl | (simp; done) | (simp [*]; done)), (by first | rfl | (simp; done) | (simp [*]; done)), H', (hid (by first | omega | (have := HK1765.out; have := HK1768.out; omega))), SWo1758, SWo1760, HL⟩
                            · rw [if_neg c1780] at H
                              exact absurd H (by simp)
                          · rw [if_neg c1779] at H
                            exact absurd H (by simp)
                        · rw [if_neg c1778] at H
                          exact absurd H (by simp)
                      · rw [if_neg c1777] at H
                        exact absurd H (by simp)
                    · rw [if_neg c1775] at H
                      exact absurd H (by simp)
                  · rw [if_neg c1774] at H
                    exact absurd H (by simp)
                · rw [if_neg c1772] at H
                  have c1772b0 : decide (0 < x9_1) = false := decide_eq_false c1772
                  have hc1772 := hid c1772
                  clear c1772
                  have H' := hid H
                  clear H
                  go_wp2_with fail
                  (try simp only [Act.put, List.setIfInBounds_toArray, List.set_cons_zero, List.set_cons_succ])
                  go_roundg k1769
                  case measure => have := HK1765.out; have := HK1768.out; omega
                  case rel => exact ⟨x2_1, (ux2_1), x3_1, (ux3_1), wrap64 (x9_1 + 1), (by first | rfl | (simp; done) | (simp [*]; done)), (by first | rfl | (simp; done) | (simp [*]; done)), (by first | rfl | (simp; done) | (simp [*]; done)), H', (hid (by first | omega | (have := HK1765.out; have := HK1768.out; omega))), SWx2_1, SWx3_1, HL⟩
              · rw [if_neg c1771] at H
                have c1771b0 : decide (0 < x6_0) = false := decide_eq_false c1771
                have hc1771 := hid c1771
                clear c1771
                have H' := hid H
                clear H
                go_wp2_with fail
                (try simp only [Act.put, List.setIfInBounds_toArray, List.set_cons_zero, List.set_cons_succ])
                go_roundg k1769
                case measure => have := HK1765.out; have := HK1768.out; omega
                case rel => exact ⟨x2_1, (ux2_1), x3_1, (ux3_1), wrap64 (x9_1 + 1), (by first | rfl | (simp; done) | (simp [*]; done)), (by first | rfl | (simp; done) | (simp [*]; done)), (by first | rfl | (simp; done) | (simp [*]; done)), H', (hid (by first | omega | (have := HK1765.out; have := HK1768.out; omega))), SWx2_1, SWx3_1, HL⟩
            · rw [if_neg c1770] at H
              have c1770b0 : decide (x9_1 < 3) = false := decide_eq_false c1770
              have hc1770 := hid c1770
              clear c1770
              have H' := hid H
              clear H
              go_wp2_with fail
              (try simp only [Act.put, List.setIfInBounds_toArray, List.set_cons_zero, List.set_cons_succ])
              go_roundg k1769
              case measure => have := HK1765.out; have := HK1768.out; omega
              case rel => exact ⟨x2_1, (ux2_1), x3_1, (ux3_1), wrap64 (x6_0 + 1), (by first | rfl | (simp; done) | (simp [*]; done)), (by first | rfl | (simp; done) | (simp [*]; done)), (by first | rfl | (simp; done) | (simp [*]; done)), H', (hid (by first | omega | (have := HK1765.out; have := HK1768.out; omega))), SWx2_1, SWx3_1, HL⟩
      · rw [if_neg c1767] at H
        have c1767b0 : decide (x6_0 < 8) = false := decide_eq_false c1767
        have hc1767 := hid c1767
        clear c1767
        by_cases c1792 : x2_0.length < 8796093022208
        · rw [if_pos c1792] at H
          have c1792b0 : decide (x2_0.length < 8796093022208) = true := decide_eq_true c1792
          have hc1792 := hid c1792
          clear c1792
          by_cases c1793 : x3_0.length < 4398046511104
          · rw [if_pos c1793] at H
            have c1793b0 : decide (x3_0.length < 4398046511104) = true := decide_eq_true c1793
            have hc1793 := hid c1793
            clear c1793
            simp only [Option.some.injEq, Prod.mk.injEq] at H
            obtain ⟨rfl, rfl⟩ := H
            have k1796 := True.intro
            have k1799 := True.intro
            go_wp2_with (first
              | ((with_reducible refine gate_d (N := 37) rfl ?_); obtain ⟨gb1761, hgb1761⟩ : ∃ g_, wr.heap.size = g_ := ⟨_, rfl⟩; refine ag_lit sT9 (.string (⟨#[100, 105, 97, 32]⟩ : ByteArray)) gb1761 hgb1761 rfl _ rfl rfl (fun w_ => by kernel_rfl) ?_; intro w1794 hb_ hB_ hs_; have GEb1761 : Hid (w.heap.size ≤ gb1761) := hid (by have := HL.out.size; omega); replace SWx2_0 := hid (SWx2_0.out.below (by rw [hgb1761]; exact hb_)); replace SWx3_0 := hid (SWx3_0.out.below (by rw [hgb1761]; exact hb_)); replace HL := hid (HL.out.trans (hb_.mono GEb1761.out)); have BKb1761 := hid hB_; clear hb_ hB_ hs_ hgb1761)
              | (at_builtin; clear k1796; refine app_one eT22 w.heap.size (ux2_0) (x2_0.map Value.string) (.string (⟨#[100, 105, 97, 32]⟩ : ByteArray)) gb1761 1 SWx2_0.out BKb1761.out rfl (by have h_ := hc1792.out; rw [List.length_map]; omega) (by have h_ := hc1792.out; rw [List.length_map]; unfold maxLen; omega) HL.out.size rfl _ _ rfl rfl rfl ?_; intro uo1762 w1795 ho_ hb_ hk_ hi_; clear SWx2_0; have SWo1762 : Hid (Own w1795 w.heap.size 9 (uo1762) ((x2_0 ++ [(⟨#[100, 105, 97, 32]⟩ : ByteArray)]).map Value.string)) := hid (by rw [List.map_append]; exact ho_); replace SWx3_0 := hid (SWx3_0.out.move fun g_ cs_ _ hh_ => hk_ g_ _ cs_ (by decide) hh_); replace HL := hid (HL.out.trans hb_); clear ho_ hb_ hk_ hi_ BKb1761)
              | ((with_reducible refine gate_d (N := 40) rfl ?_); refine ag_build (.agg #[.int .i64 8, .int .i64 0, .int .i64 0, .bool false]) _ rfl rfl ?_ ?_; (intro ww_; simp only [List.map_toArray, List.map_cons, List.map_nil]; kernel_rfl))
              | ((with_reducible refine gate_d (N := 41) rfl ?_); obtain ⟨gb1763, hgb1763⟩ : ∃ g_, w1795.heap.size = g_ := ⟨_, rfl⟩; refine ag_litA (e := 43) 1 #[.int .i64 8, .int .i64 0, .int .i64 0, .bool false] gb1763 hgb1763 rfl _ rfl (fun w_ => by (try simp only [List.map_toArray, List.map_cons, List.map_nil]); kernel_rfl) ?_; intro w1797 hb_ hB_ hs_; have GEb1763 : Hid (w.heap.size ≤ gb1763) := hid (by have := HL.out.size; omega); replace SWx3_0 := hid (SWx3_0.out.below (by rw [hgb1763]; exact hb_)); replace SWo1762 := hid (SWo1762.out.below (by rw [hgb1763]; exact hb_)); replace HL := hid (HL.out.trans (hb_.mono GEb1763.out)); have BKb1763 := hid hB_; clear hb_ hB_ hs_ hgb1763)
              | (at_builtin; clear k1799; refine app_n (len := x3_0.length) eN74 w.heap.size (ux3_0) (x3_0.flatMap en43) (en43 (8, 0, 0, false)) gb1763 1 SWx3_0.out BKb1763.out rfl (by intro u_ hu_; simp [en43] at hu_; rcases hu_ with rfl | rfl | rfl | rfl <;> rfl) (by have h_ := hc1793.out; omega) (by have h_ := hc1793.out; unfold maxLen; omega) HL.out.size rfl _ _ rfl rfl rfl ?_; intro uo1764 w1798 ho_ hb_ hk_ hi_; clear SWx3_0; have SWo1764 : Hid (OwnN w1798 w.heap.size 43 4 (uo1764) (x3_0 ++ [(8, 0, 0, false)]).length ((x3_0 ++ [(8, 0, 0, false)]).flatMap en43)) := hid (OwnN.snoc ho_); replace SWo1762 := hid (SWo1762.out.move fun g_ cs_ _ hh_ => hk_ g_ _ cs_ (by decide) hh_); replace HL := hid (HL.out.trans hb_); clear ho_ hb_ hk_ hi_ BKb1763))
            (try simp only [Act.put, List.setIfInBounds_toArray, List.set_cons_zero, List.set_cons_succ])
            go_ret2
            exact ⟨_, _, rfl, (by exact SWo1762.out), (by exact SWo1764.out), HL.out⟩
          · rw [if_neg c1793] at H
            exact absurd H (by simp)
        · rw [if_neg c1792] at H
          exact absurd H (by simp)
/-! i_stip_halved: function 49 -/
def i_stip_halved.f (k : Nat) (a0 : ByteArray) (a1 : Int) : Option (Int × Int × Int) := if a1 < (a0.size : Int) then (if 0 ≤ a1 then (if (bt a0 a1.toNat) = (bt (⟨#[46, 53]⟩ : ByteArray) 0) then ((i_lex_Word.f k a0 a1 (⟨#[46, 53]⟩ : ByteArray)).bind fun bt1801 => (some (bt1801.1, 1, bt1801.2.2))) else (some (a1, 0, 0))) else (none)) else (some (a1, 0, 0))
set_option maxHeartbeats 40000000 in
set_option maxRecDepth 100000 in
theorem i_stip_halved.calls (k : Nat) (a0 : ByteArray) (a1 : Int) (r1 : Int) (r2 : Int) (r3 : Int) (w : World) (h : i_stip_halved.f k a0 a1 = some (r1, r2, r3)) :
    Calls Try.prog 49 #[.string a0, .int .i64 a1] w fun e w' => e = .returned (.agg #[.int .i64 r1, .int .i64 r2, .int .i64 r3]) ∧ Below w.heap.size w w' := by
  have HL := hid (Below.refl w.heap.size w)
  have H : (if a1 < (a0.size : Int) then (if 0 ≤ a1 then (if (bt a0 a1.toNat) = (bt (⟨#[46, 53]⟩ : ByteArray) 0) then ((i_lex_Word.f k a0 a1 (⟨#[46, 53]⟩ : ByteArray)).bind fun bt1801 => (some (bt1801.1, 1, bt1801.2.2))) else (some (a1, 0, 0))) else (none)) else (some (a1, 0, 0))) = some (r1, r2, r3) := h
  clear h
  by_cases c1805 : a1 < (a0.size : Int)
  · rw [if_pos c1805] at H
    have c1805b0 : decide (a1 < (a0.size : Int)) = true := decide_eq_true c1805
    have hc1805 := hid c1805
    clear c1805
    by_cases c1806 : 0 ≤ a1
    · rw [if_pos c1806] at H
      have c1806b0 : decide (0 ≤ a1) = true := decide_eq_true c1806
      have hc1806 := hid c1806
      clear c1806
      by_cases c1807 : (bt a0 a1.toNat) = (bt (⟨#[46, 53]⟩ : ByteArray) 0)
      · rw [if_pos c1807] at H
        have c1807b0 : ((bt a0 a1.toNat) == (bt (⟨#[46, 53]⟩ : ByteArray) 0)) = true := beq_iff_eq.mpr c1807
        have c1807b1 : ((bt a0 a1.toNat) != (bt (⟨#[46, 53]⟩ : ByteArray) 0)) = false := bne_eq_false_iff_eq.mpr c1807
        have hc1807 := hid c1807
        clear c1807
        replace H := Option.bind_eq_some_iff.mp H
        obtain ⟨⟨t1801, t1802, t1803⟩, A1808_, H⟩ := H
        replace H : (some (t1801, 1, t1803)) = some (r1, r2, r3) := H
        have A1808 := hid A1808_
        clear A1808_
        simp only [Option.some.injEq, Prod.mk.injEq] at H
        obtain ⟨rfl, rfl, rfl⟩ := H
        go_enter Try.func49, Try.ntmps49
        go_wp2_with (first
          | ((with_reducible refine gate_d (N := 4) rfl ?_); obtain ⟨gb1800, hgb1800⟩ : ∃ g_, w.heap.size = g_ := ⟨_, rfl⟩; refine ag_alloc aT26 gb1800 hgb1800 rfl rfl ?_; intro w1809 hb_ hB_ hs_; have GEb1800 : Hid (w.heap.size ≤ gb1800) := hid (by have := HL.out.size; omega); replace HL := hid (HL.out.trans (hb_.mono GEb1800.out)); have BKb1800 := hid hB_; clear hb_ hB_ hs_ hgb1800))
        (try simp only [Act.put, List.setIfInBounds_toArray, List.set_cons_zero, List.set_cons_succ])
        have WR64 := i64_w
        have WR32 := i32_w
        refine up_regionW (by kernel_rfl) (by kernel_rfl) ?_
        refine q_do (.int .i64 a1) (fun w'_ hc_ => ex_mv (.tmp 1) (.inl rfl) _ rfl) rfl rfl ?_
        intro ts_ ht_; simp only [List.setIfInBounds_toArray, List.set_cons_zero, List.set_cons_succ] at ht_; subst ht_
        refine q_do (.string a0) (fun w'_ hc_ => ex_mv (.tmp 0) (.inl rfl) _ rfl) rfl rfl ?_
        intro ts_ ht_; simp only [List.setIfInBounds_toArray, List.set_cons_zero, List.set_cons_succ] at ht_; subst ht_
        refine q_do (.int .i64 (a0.size : Int)) (fun w'_ hc_ => by go_simp) rfl rfl ?_
        intro ts_ ht_; simp only [List.setIfInBounds_toArray, List.set_cons_zero, List.set_cons_succ] at ht_; subst ht_
        refine q_do (.bool true) (fun w'_ hc_ => by go_simp) rfl rfl ?_
        intro ts_ ht_; simp only [List.setIfInBounds_toArray, List.set_cons_zero, List.set_cons_succ] at ht_; subst ht_
        refine q_do (.bool true) (fun w'_ hc_ => ex_mv (.tmp 9) (.inl rfl) _ rfl) rfl rfl ?_
        intro ts_ ht_; simp only [List.setIfInBounds_toArray, List.set_cons_zero, List.set_cons_succ] at ht_; subst ht_
        refine q_do (.string a0) (fun w'_ hc_ => ex_mv (.tmp 0) (.inl rfl) _ rfl) rfl rfl ?_
        intro ts_ ht_; simp only [List.setIfInBounds_toArray, List.set_cons_zero, List.set_cons_succ] at ht_; subst ht_
        refine q_do (.int .i64 a1) (fun w'_ hc_ => ex_mv (.tmp 1) (.inl rfl) _ rfl) rfl rfl ?_
        intro ts_ ht_; simp only [List.setIfInBounds_toArray, List.set_cons_zero, List.set_cons_succ] at ht_; subst ht_
        refine q_do (.int .u8 (bt a0 a1.toNat)) (fun w'_ hc_ => by obtain ⟨n_, hn_⟩ := hc_; exact ex_ix 9 (.string a0) (.int .i64 a1) (.int .u8 (bt a0 a1.toNat)) (ix_txt a0 a1 hc1806.out hc1805.out) _ _ rfl rfl rfl) rfl rfl ?_
        intro ts_ ht_; simp only [List.setIfInBounds_toArray, List.set_cons_zero, List.set_cons_succ] at ht_; subst ht_
        refine q_do (.int .u8 (bt (⟨#[46, 53]⟩ : ByteArray) 0)) (fun w'_ hc_ => by obtain ⟨n_, hn_⟩ := hc_; exact ex_ix 9 (.string (⟨#[46, 53]⟩ : ByteArray)) (.int .i64 0) (.int .u8 (bt (⟨#[46, 53]⟩ : ByteArray) 0)) (ix_txt (⟨#[46, 53]⟩ : ByteArray) 0 (by omega) (by first | omega | decide)) _ _ rfl rfl rfl) rfl rfl ?_
        intro ts_ ht_; simp only [List.setIfInBounds_toArray, List.set_cons_zero, List.set_cons_succ] at ht_; subst ht_
        refine q_do (.bool true) (fun w'_ hc_ => by go_simp) rfl rfl ?_
        intro ts_ ht_; simp only [List.setIfInBounds_toArray, List.set_cons_zero, List.set_cons_succ] at ht_; subst ht_
        refine q_do (.bool true) (fun w'_ hc_ => by go_simp) rfl rfl ?_
        intro ts_ ht_; simp only [List.setIfInBounds_toArray, List.set_cons_zero, List.set_cons_succ] at ht_; subst ht_
        refine q_end ?_
        rintro w8_ ⟨n_, rfl⟩
        replace BKb1800 := hid (BKb1800.out.below n_.below BKb1800.out.lt)
        replace HL := hid (HL.out.trans (n_.below.mono HL.out.size))
        generalize n_.world = w1810 at *
        clear n_ WR64 WR32
        have k1811 := True.intro
        go_wp2_with (first
          | (go_at_call 10; clear k1811; refine (i_lex_Word.calls k a0 a1 (⟨#[46, 53]⟩ : ByteArray) t1801 t1802 t1803 _ A1808.out).mono ?_; rintro e_ w1812 ⟨rfl, hb_⟩; replace BKb1800 := hid (BKb1800.out.below hb_ BKb1800.out.lt); replace HL := hid (HL.out.trans (hb_.mono HL.out.size)); clear hb_)
          | ((with_reducible refine gate_d (N := 5) rfl ?_); obtain ⟨gb1804, hgb1804⟩ : ∃ g_, w1812.heap.size = g_ := ⟨_, rfl⟩; refine ag_alloc aT26 gb1804 hgb1804 rfl rfl ?_; intro w1813 hb_ hB_ hs_; have GEb1804 : Hid (w.heap.size ≤ gb1804) := hid (by have := HL.out.size; omega); have NBb1800_b1804 : Hid (gb1800 ≠ gb1804) := hid (by have := BKb1800.out.lt; omega); have NBb1804_b1800 : Hid (gb1804 ≠ gb1800) := hid (by have := NBb1800_b1804.out; omega); replace BKb1800 := hid (BKb1800.out.below hb_ (by rw [← hgb1804]; exact BKb1800.out.lt)); replace HL := hid (HL.out.trans (hb_.mono GEb1804.out)); have BKb1804 := hid hB_; clear hb_ hB_ hs_ hgb1804)
          | ((with_reducible refine gate_s (t := 26) (p := 5) rfl ?_); refine ag_store aT26 gb1804 0 #[.int .i64 0, .int .i64 0, .int .i64 0] #[.int .i64 t1801, .int .i64 t1802, .int .i64 t1803] #[.int .i64 t1801, .int .i64 t1802, .int .i64 t1803] BKb1804.out rfl (by simp) (by intro v_ hv_; simp at hv_; rcases hv_ with rfl | rfl | rfl <;> first | rfl) rfl rfl _ _ rfl rfl rfl ?_; intro w1814 ho_ hB_; replace BKb1800 := hid (BKb1800.out.off ho_ NBb1800_b1804.out); replace HL := hid (ho_.below HL.out GEb1804.out); replace BKb1804 := hid hB_; clear ho_ hB_)
          | ((with_reducible refine gate_d (N := 20) rfl ?_); refine ag_fix (.pointer (some ⟨gb1804, 1, none⟩)) (ex_field 26 1 (.pointer (some ⟨gb1804, 0, none⟩)) (.pointer (some ⟨gb1804, 1, none⟩)) (fa26_1_0 gb1804) _ rfl rfl) rfl ?_)
          | ((with_reducible refine gate_s (t := 3) (p := 20) rfl ?_); refine ag_set sT3 gb1804 (1) (.int .i64 1) #[.int .i64 t1801, .int .i64 t1802, .int .i64 t1803] #[.int .i64 t1801, .int .i64 1, .int .i64 t1803] BKb1804.out (by simp) rfl rfl rfl rfl _ _ rfl rfl rfl ?_; intro w1815 ho_ hB_; replace BKb1800 := hid (BKb1800.out.off ho_ NBb1800_b1804.out); replace HL := hid (ho_.below HL.out GEb1804.out); replace BKb1804 := hid hB_; clear ho_ hB_)
          | ((with_reducible refine gate_d (N := 21) rfl ?_); refine ag_fix (.agg #[.int .i64 t1801, .int .i64 1, .int .i64 t1803]) (ex_load aT26 gb1804 0 #[.int .i64 t1801, .int .i64 1, .int .i64 t1803] #[.int .i64 t1801, .int .i64 1, .int .i64 t1803] BKb1804.out (by simp) rfl _ rfl rfl) rfl ?_)
          | ((with_reducible refine gate_s (t := 26) (p := 4) rfl ?_); refine ag_store aT26 gb1800 0 #[.int .i64 0, .int .i64 0, .int .i64 0] #[.int .i64 t1801, .int .i64 1, .int .i64 t1803] #[.int .i64 t1801, .int .i64 1, .int .i64 t1803] BKb1800.out rfl (by simp) (by intro v_ hv_; simp at hv_; rcases hv_ with rfl | rfl | rfl <;> first | rfl) rfl rfl _ _ rfl rfl rfl ?_; intro w1816 ho_ hB_; replace BKb1804 := hid (BKb1804.out.off ho_ NBb1804_b1800.out); replace HL := hid (ho_.below HL.out GEb1800.out); replace BKb1800 := hid hB_; clear ho_ hB_))
        (try simp only [Act.put, List.setIfInBounds_toArray, List.set_cons_zero, List.set_cons_succ])
        refine bodyPost_ret (v := .agg #[.int .i64 t1801, .int .i64 1, .int .i64 t1803]) (res_c aT26 rfl _ gb1800 #[.int .i64 t1801, .int .i64 1, .int .i64 t1803] BKb1800.out rfl rfl) rfl ?_
        exact ⟨by first | rfl | (simp; done) | (simp [*]; done), HL.out⟩
      · rw [if_neg c1807] at H
        have c1807b0 : ((bt a0 a1.toNat) == (bt (⟨#[46, 53]⟩ : ByteArray) 0)) = false := beq_eq_false_iff_ne.mpr c1807
        have c1807b1 : ((bt a0 a1.toNat) != (bt (⟨#[46, 53]⟩ : ByteArray) 0)) = true := bne_iff_ne.mpr c1807
        have hc1807 := hid c1807
        clear c1807
        simp only [Option.some.injEq, Prod.mk.injEq] at H
        obtain ⟨rfl, rfl, rfl⟩ := H
        go_enter Try.func49, Try.ntmps49
        go_wp2_with (first
          | ((with_reducible refine gate_d (N := 4) rfl ?_); obtain ⟨gb1800, hgb1800⟩ : ∃ g_, w.heap.size = g_ := ⟨_, rfl⟩; refine ag_alloc aT26 gb1800 hgb1800 rfl rfl ?_; intro w1817 hb_ hB_ hs_; have GEb1800 : Hid (w.heap.size ≤ gb1800) := hid (by have := HL.out.size; omega); replace HL := hid (HL.out.trans (hb_.mono GEb1800.out)); have BKb1800 := hid hB_; clear hb_ hB_ hs_ hgb1800))
        (try simp only [Act.put, List.setIfInBounds_toArray, List.set_cons_zero, List.set_cons_succ])
        have WR64 := i64_w
        have WR32 := i32_w
        refine up_regionW (by kernel_rfl) (by kernel_rfl) ?_
        refine q_do (.int .i64 a1) (fun w'_ hc_ => ex_mv (.tmp 1) (.inl rfl) _ rfl) rfl rfl ?_
        intro ts_ ht_; simp only [List.setIfInBounds_toArray, List.set_cons_zero, List.set_cons_succ] at ht_; subst ht_
        refine q_do (.string a0) (fun w'_ hc_ => ex_mv (.tmp 0) (.inl rfl) _ rfl) rfl rfl ?_
        intro ts_ ht_; simp only [List.setIfInBounds_toArray, List.set_cons_zero, List.set_cons_succ] at ht_; subst ht_
        refine q_do (.int .i64 (a0.size : Int)) (fun w'_ hc_ => by go_simp) rfl rfl ?_
        intro ts_ ht_; simp only [List.setIfInBounds_toArray, List.set_cons_zero, List.set_cons_succ] at ht_; subst ht_
        refine q_do (.bool true) (fun w'_ hc_ => by go_simp) rfl rfl ?_
        intro ts_ ht_; simp only [List.setIfInBounds_toArray, List.set_cons_zero, List.set_cons_succ] at ht_; subst ht_
        refine q_do (.bool true) (fun w'_ hc_ => ex_mv (.tmp 9) (.inl rfl) _ rfl) rfl rfl ?_
        intro ts_ ht_; simp only [List.setIfInBounds_toArray, List.set_cons_zero, List.set_cons_succ] at ht_; subst ht_
        refine q_do (.string a0) (fun w'_ hc_ => ex_mv (.tmp 0) (.inl rfl) _ rfl) rfl rfl ?_
        intro ts_ ht_; simp only [List.setIfInBounds_toArray, List.set_cons_zero, List.set_cons_succ] at ht_; subst ht_
        refine q_do (.int .i64 a1) (fun w'_ hc_ => ex_mv (.tmp 1) (.inl rfl) _ rfl) rfl rfl ?_
        intro ts_ ht_; simp only [List.setIfInBounds_toArray, List.set_cons_zero, List.set_cons_succ] at ht_; subst ht_
        refine q_do (.int .u8 (bt a0 a1.toNat)) (fun w'_ hc_ => by obtain ⟨n_, hn_⟩ := hc_; exact ex_ix 9 (.string a0) (.int .i64 a1) (.int .u8 (bt a0 a1.toNat)) (ix_txt a0 a1 hc1806.out hc1805.out) _ _ rfl rfl rfl) rfl rfl ?_
        intro ts_ ht_; simp only [List.setIfInBounds_toArray, List.set_cons_zero, List.set_cons_succ] at ht_; subst ht_
        refine q_do (.int .u8 (bt (⟨#[46, 53]⟩ : ByteArray) 0)) (fun w'_ hc_ => by obtain ⟨n_, hn_⟩ := hc_; exact ex_ix 9 (.string (⟨#[46, 53]⟩ : ByteArray)) (.int .i64 0) (.int .u8 (bt (⟨#[46, 53]⟩ : ByteArray) 0)) (ix_txt (⟨#[46, 53]⟩ : ByteArray) 0 (by omega) (by first | omega | decide)) _ _ rfl rfl rfl) rfl rfl ?_
        intro ts_ ht_; simp only [List.setIfInBounds_toArray, List.set_cons_zero, List.set_cons_succ] at ht_; subst ht_
        refine q_do (.bool false) (fun w'_ hc_ => by go_simp) rfl rfl ?_
        intro ts_ ht_; simp only [List.setIfInBounds_toArray, List.set_cons_zero, List.set_cons_succ] at ht_; subst ht_
        refine q_do (.bool false) (fun w'_ hc_ => by go_simp) rfl rfl ?_
        intro ts_ ht_; simp only [List.setIfInBounds_toArray, List.set_cons_zero, List.set_cons_succ] at ht_; subst ht_
        refine q_end ?_
        rintro w8_ ⟨n_, rfl⟩
        replace BKb1800 := hid (BKb1800.out.below n_.below BKb1800.out.lt)
        replace HL := hid (HL.out.trans (n_.below.mono HL.out.size))
        generalize n_.world = w1818 at *
        clear n_ WR64 WR32
        go_wp2_with (first
          | ((with_reducible refine gate_d (N := 23) rfl ?_); refine ag_build (.agg #[.int .i64 a1, .int .i64 0, .int .i64 0]) _ rfl rfl ?_ ?_; (intro ww_; simp only [List.map_toArray, List.map_cons, List.map_nil]; kernel_rfl))
          | ((with_reducible refine gate_s (t := 26) (p := 4) rfl ?_); refine ag_store aT26 gb1800 0 #[.int .i64 0, .int .i64 0, .int .i64 0] #[.int .i64 a1, .int .i64 0, .int .i64 0] #[.int .i64 a1, .int .i64 0, .int .i64 0] BKb1800.out rfl (by simp) (by intro v_ hv_; simp at hv_; rcases hv_ with rfl | rfl | rfl <;> first | rfl) rfl rfl _ _ rfl rfl rfl ?_; intro w1819 ho_ hB_; replace HL := hid (ho_.below HL.out GEb1800.out); replace BKb1800 := hid hB_; clear ho_ hB_))
        (try simp only [Act.put, List.setIfInBounds_toArray, List.set_cons_zero, List.set_cons_succ])
        refine bodyPost_ret (v := .agg #[.int .i64 a1, .int .i64 0, .int .i64 0]) (res_c aT26 rfl _ gb1800 #[.int .i64 a1, .int .i64 0, .int .i64 0] BKb1800.out rfl rfl) rfl ?_
        exact ⟨by first | rfl | (simp; done) | (simp [*]; done), HL.out⟩
    · rw [if_neg c1806] at H
      exact absurd H (by simp)
  · rw [if_neg c1805] at H
    have c1805b0 : decide (a1 < (a0.size : Int)) = false := decide_eq_false c1805
    have hc1805 := hid c1805
    clear c1805
    simp only [Option.some.injEq, Prod.mk.injEq] at H
    obtain ⟨rfl, rfl, rfl⟩ := H
    go_enter Try.func49, Try.ntmps49
    go_wp2_with (first
      | ((with_reducible refine gate_d (N := 4) rfl ?_); obtain ⟨gb1800, hgb1800⟩ : ∃ g_, w.heap.size = g_ := ⟨_, rfl⟩; refine ag_alloc aT26 gb1800 hgb1800 rfl rfl ?_; intro w1820 hb_ hB_ hs_; have GEb1800 : Hid (w.heap.size ≤ gb1800) := hid (by have := HL.out.size; omega); replace HL := hid (HL.out.trans (hb_.mono GEb1800.out)); have BKb1800 := hid hB_; clear hb_ hB_ hs_ hgb1800))
    (try simp only [Act.put, List.setIfInBounds_toArray, List.set_cons_zero, List.set_cons_succ])
    have WR64 := i64_w
    have WR32 := i32_w
    refine up_regionW (by kernel_rfl) (by kernel_rfl) ?_
    refine q_do (.int .i64 a1) (fun w'_ hc_ => ex_mv (.tmp 1) (.inl rfl) _ rfl) rfl rfl ?_
    intro ts_ ht_; simp only [List.setIfInBounds_toArray, List.set_cons_zero, List.set_cons_succ] at ht_; subst ht_
    refine q_do (.string a0) (fun w'_ hc_ => ex_mv (.tmp 0) (.inl rfl) _ rfl) rfl rfl ?_
    intro ts_ ht_; simp only [List.setIfInBounds_toArray, List.set_cons_zero, List.set_cons_succ] at ht_; subst ht_
    refine q_do (.int .i64 (a0.size : Int)) (fun w'_ hc_ => by go_simp) rfl rfl ?_
    intro ts_ ht_; simp only [List.setIfInBounds_toArray, List.set_cons_zero, List.set_cons_succ] at ht_; subst ht_
    refine q_do (.bool false) (fun w'_ hc_ => by go_simp) rfl rfl ?_
    intro ts_ ht_; simp only [List.setIfInBounds_toArray, List.set_cons_zero, List.set_cons_succ] at ht_; subst ht_
    refine q_do (.bool false) (fun w'_ hc_ => ex_mv (.tmp 9) (.inl rfl) _ rfl) rfl rfl ?_
    intro ts_ ht_; simp only [List.setIfInBounds_toArray, List.set_cons_zero, List.set_cons_succ] at ht_; subst ht_
    refine q_not 4 false rfl rfl rfl ?_
    intro ts_ ht_; simp only [List.setIfInBounds_toArray, List.set_cons_zero, List.set_cons_succ] at ht_; subst ht_
    refine q_not 4 false rfl rfl rfl ?_
    intro ts_ ht_; simp only [List.setIfInBounds_toArray, List.set_cons_zero, List.set_cons_succ] at ht_; subst ht_
    refine q_not 4 false rfl rfl rfl ?_
    intro ts_ ht_; simp only [List.setIfInBounds_toArray, List.set_cons_zero, List.set_cons_succ] at ht_; subst ht_
    refine q_not 4 false rfl rfl rfl ?_
    intro ts_ ht_; simp only [List.setIfInBounds_toArray, List.set_cons_zero, List.set_cons_succ] at ht_; subst ht_
    refine q_not 4 false rfl rfl rfl ?_
    intro ts_ ht_; simp only [List.setIfInBounds_toArray, List.set_cons_zero, List.set_cons_succ] at ht_; subst ht_
    refine q_do (.bool false) (fun w'_ hc_ => by go_simp) rfl rfl ?_
    intro ts_ ht_; simp only [List.setIfInBounds_toArray, List.set_cons_zero, List.set_cons_succ] at ht_; subst ht_
    refine q_end ?_
    rintro w8_ ⟨n_, rfl⟩
    replace BKb1800 := hid (BKb1800.out.below n_.below BKb1800.out.lt)
    replace HL := hid (HL.out.trans (n_.below.mono HL.out.size))
    generalize n_.world = w1821 at *
    clear n_ WR64 WR32
    go_wp2_with (first
      | ((with_reducible refine gate_d (N := 23) rfl ?_); refine ag_build (.agg #[.int .i64 a1, .int .i64 0, .int .i64 0]) _ rfl rfl ?_ ?_; (intro ww_; simp only [List.map_toArray, List.map_cons, List.map_nil]; kernel_rfl))
      | ((with_reducible refine gate_s (t := 26) (p := 4) rfl ?_); refine ag_store aT26 gb1800 0 #[.int .i64 0, .int .i64 0, .int .i64 0] #[.int .i64 a1, .int .i64 0, .int .i64 0] #[.int .i64 a1, .int .i64 0, .int .i64 0] BKb1800.out rfl (by simp) (by intro v_ hv_; simp at hv_; rcases hv_ with rfl | rfl | rfl <;> first | rfl) rfl rfl _ _ rfl rfl rfl ?_; intro w1822 ho_ hB_; replace HL := hid (ho_.below HL.out GEb1800.out); replace BKb1800 := hid hB_; clear ho_ hB_))
    (try simp only [Act.put, List.setIfInBounds_toArray, List.set_cons_zero, List.set_cons_succ])
    refine bodyPost_ret (v := .agg #[.int .i64 a1, .int .i64 0, .int .i64 0]) (res_c aT26 rfl _ gb1800 #[.int .i64 a1, .int .i64 0, .int .i64 0] BKb1800.out rfl rfl) rfl ?_
    exact ⟨by first | rfl | (simp; done) | (simp [*]; done), HL.out⟩
/-! i_stip_Read: function 36 -/
def i_stip_Read.f (k : Nat) (a0 : ByteArray) (a1 : Int) : Option (Int × Int × Int × Bool × Int × Int × Int) := (i_stip_words.f k).bind fun bt1825 => ((i_lex_OneOf.f k a0 a1 bt1825.1).bind fun bt1827 => (if bt1827.2.2 = 0 then (if 0 ≤ bt1827.2.1 then (if bt1827.2.1 < (bt1825.2.length : Int) then (if ((nt bt1825.2 bt1827.2.1.toNat (0, 0, 0, false)).1) = 5 then ((i_lex_Number.f k a0 bt1827.1 0 64).bind fun bt1833 => (if bt1833.2.2 = 0 then (if bt1833.2.1 = 0 then ((i_lex_Word.f k a0 bt1833.1 (⟨#[46, 53]⟩ : ByteArray)).bind fun bt1837 => (if bt1837.2.2 = 0 then (some ((nt bt1825.2 bt1827.2.1.toNat (0, 0, 0, false)).1, (nt bt1825.2 bt1827.2.1.toNat (0, 0, 0, false)).2.1, bt1833.2.1, true, bt1837.1, 0, 0)) else (some (0, 0, 0, false, bt1837.1, bt1837.2.1, bt1837.2.2)))) else ((i_stip_halved.f k a0 bt1833.1).bind fun bt1841 => (if bt1841.2.2 = 0 then (some ((nt bt1825.2 bt1827.2.1.toNat (0, 0, 0, false)).1, (nt bt1825.2 bt1827.2.1.toNat (0, 0, 0, false)).2.1, bt1833.2.1, (bt1841.2.1 == 1), bt1841.1, 0, 0)) else (some (0, 0, 0, false, bt1841.1, 0, bt1841.2.2))))) else (some (0, 0, 0, false, bt1833.1, bt1833.2.1, bt1833.2.2)))) else ((i_lex_Number.f k a0 bt1827.1 1 64).bind fun bt1845 => (if bt1845.2.2 = 0 then (some ((nt bt1825.2 bt1827.2.1.toNat (0, 0, 0, false)).1, (nt bt1825.2 bt1827.2.1.toNat (0, 0, 0, false)).2.1, bt1845.2.1, (nt bt1825.2 bt1827.2.1.toNat (0, 0, 0, false)).2.2.2, bt1845.1, 0, 0)) else (some (0, 0, 0, false, bt1845.1, bt1845.2.1, bt1845.2.2))))) else (none)) else (none)) else (some (0, 0, 0, false, bt1827.1, bt1827.2.1, bt1827.2.2))))
set_option maxHeartbeats 40000000 in
set_option maxRecDepth 100000 in
theorem i_stip_Read.calls (k : Nat) (a0 : ByteArray) (a1 : Int) (r1 : Int) (r2 : Int) (r3 : Int) (r4 : Bool) (r5 : Int) (r6 : Int) (r7 : Int) (w : World) (h : i_stip_Read.f k a0 a1 = some (r1, r2, r3, r4, r5, r6, r7)) :
    Calls Try.prog 36 #[.string a0, .int .i64 a1] w fun e w' => e = .returned (.tuple #[.agg #[.int .i64 r1, .int .i64 r2, .int .i64 r3, .bool r4], .agg #[.int .i64 r5, .int .i64 r6, .int .i64 r7]]) ∧ Below w.heap.size w w' := by
  have HL := hid (Below.refl w.heap.size w)
  have H : ((i_stip_words.f k).bind fun bt1825 => ((i_lex_OneOf.f k a0 a1 bt1825.1).bind fun bt1827 => (if bt1827.2.2 = 0 then (if 0 ≤ bt1827.2.1 then (if bt1827.2.1 < (bt1825.2.length : Int) then (if ((nt bt1825.2 bt1827.2.1.toNat (0, 0, 0, false)).1) = 5 then ((i_lex_Number.f k a0 bt1827.1 0 64).bind fun bt1833 => (if bt1833.2.2 = 0 then (if bt1833.2.1 = 0 then ((i_lex_Word.f k a0 bt1833.1 (⟨#[46, 53]⟩ : ByteArray)).bind fun bt1837 => (if bt1837.2.2 = 0 then (some ((nt bt1825.2 bt1827.2.1.toNat (0, 0, 0, false)).1, (nt bt1825.2 bt1827.2.1.toNat (0, 0, 0, false)).2.1, bt1833.2.1, true, bt1837.1, 0, 0)) else (some (0, 0, 0, false, bt1837.1, bt1837.2.1, bt1837.2.2)))) else ((i_stip_halved.f k a0 bt1833.1).bind fun bt1841 => (if bt1841.2.2 = 0 then (some ((nt bt1825.2 bt1827.2.1.toNat (0, 0, 0, false)).1, (nt bt1825.2 bt1827.2.1.toNat (0, 0, 0, false)).2.1, bt1833.2.1, (bt1841.2.1 == 1), bt1841.1, 0, 0)) else (some (0, 0, 0, false, bt1841.1, 0, bt1841.2.2))))) else (some (0, 0, 0, false, bt1833.1, bt1833.2.1, bt1833.2.2)))) else ((i_lex_Number.f k a0 bt1827.1 1 64).bind fun bt1845 => (if bt1845.2.2 = 0 then (some ((nt bt1825.2 bt1827.2.1.toNat (0, 0, 0, false)).1, (nt bt1825.2 bt1827.2.1.toNat (0, 0, 0, false)).2.1, bt1845.2.1, (nt bt1825.2 bt1827.2.1.toNat (0, 0, 0, false)).2.2.2, bt1845.1, 0, 0)) else (some (0, 0, 0, false, bt1845.1, bt1845.2.1, bt1845.2.2))))) else (none)) else (none)) else (some (0, 0, 0, false, bt1827.1, bt1827.2.1, bt1827.2.2))))) = some (r1, r2, r3, r4, r5, r6, r7) := h
  clear h
  replace H := Option.bind_eq_some_iff.mp H
  obtain ⟨⟨t1825, t1826⟩, A1849_, H⟩ := H
  replace H : ((i_lex_OneOf.f k a0 a1 t1825).bind fun bt1827 => (if bt1827.2.2 = 0 then (if 0 ≤ bt1827.2.1 then (if bt1827.2.1 < (t1826.length : Int) then (if ((nt t1826 bt1827.2.1.toNat (0, 0, 0, false)).1) = 5 then ((i_lex_Number.f k a0 bt1827.1 0 64).bind fun bt1833 => (if bt1833.2.2 = 0 then (if bt1833.2.1 = 0 then ((i_lex_Word.f k a0 bt1833.1 (⟨#[46, 53]⟩ : ByteArray)).bind fun bt1837 => (if bt1837.2.2 = 0 then (some ((nt t1826 bt1827.2.1.toNat (0, 0, 0, false)).1, (nt t1826 bt1827.2.1.toNat (0, 0, 0, false)).2.1, bt1833.2.1, true, bt1837.1, 0, 0)) else (some (0, 0, 0, false, bt1837.1, bt1837.2.1, bt1837.2.2)))) else ((i_stip_halved.f k a0 bt1833.1).bind fun bt1841 => (if bt1841.2.2 = 0 then (some ((nt t1826 bt1827.2.1.toNat (0, 0, 0, false)).1, (nt t1826 bt1827.2.1.toNat (0, 0, 0, false)).2.1, bt1833.2.1, (bt1841.2.1 == 1), bt1841.1, 0, 0)) else (some (0, 0, 0, false, bt1841.1, 0, bt1841.2.2))))) else (some (0, 0, 0, false, bt1833.1, bt1833.2.1, bt1833.2.2)))) else ((i_lex_Number.f k a0 bt1827.1 1 64).bind fun bt1845 => (if bt1845.2.2 = 0 then (some ((nt t1826 bt1827.2.1.toNat (0, 0, 0, false)).1, (nt t1826 bt1827.2.1.toNat (0, 0, 0, false)).2.1, bt1845.2.1, (nt t1826 bt1827.2.1.toNat (0, 0, 0, false)).2.2.2, bt1845.1, 0, 0)) else (some (0, 0, 0, false, bt1845.1, bt1845.2.1, bt1845.2.2))))) else (none)) else (none)) else (some (0, 0, 0, false, bt1827.1, bt1827.2.1, bt1827.2.2)))) = some (r1, r2, r3, r4, r5, r6, r7) := H
  have A1849 := hid A1849_
  clear A1849_
  replace H := Option.bind_eq_some_iff.mp H
  obtain ⟨⟨t1827, t1828, t1829⟩, A1850_, H⟩ := H
  replace H : (if t1829 = 0 then (if 0 ≤ t1828 then (if t1828 < (t1826.length : Int) then (if ((nt t1826 t1828.toNat (0, 0, 0, false)).1) = 5 then ((i_lex_Number.f k a0 t1827 0 64).bind fun bt1833 => (if bt1833.2.2 = 0 then (if bt1833.2.1 = 0 then ((i_lex_Word.f k a0 bt1833.1 (⟨#[46, 53]⟩ : ByteArray)).bind fun bt1837 => (if bt1837.2.2 = 0 then (some ((nt t1826 t1828.toNat (0, 0, 0, false)).1, (nt t1826 t1828.toNat (0, 0, 0, false)).2.1, bt1833.2.1, true, bt1837.1, 0, 0)) else (some (0, 0, 0, false, bt1837.1, bt1837.2.1, bt1837.2.2)))) else ((i_stip_halved.f k a0 bt1833.1).bind fun bt1841 => (if bt1841.2.2 = 0 then (some ((nt t1826 t1828.toNat (0, 0, 0, false)).1, (nt t1826 t1828.toNat (0, 0, 0, false)).2.1, bt1833.2.1, (bt1841.2.1 == 1), bt1841.1, 0, 0)) else (some (0, 0, 0, false, bt1841.1, 0, bt1841.2.2))))) else (some (0, 0, 0, false, bt1833.1, bt1833.2.1, bt1833.2.2)))) else ((i_lex_Number.f k a0 t1827 1 64).bind fun bt1845 => (if bt1845.2.2 = 0 then (some ((nt t1826 t1828.toNat (0, 0, 0, false)).1, (nt t1826 t1828.toNat (0, 0, 0, false)).2.1, bt1845.2.1, (nt t1826 t1828.toNat (0, 0, 0, false)).2.2.2, bt1845.1, 0, 0)) else (some (0, 0, 0, false, bt1845.1, bt1845.2.1, bt1845.2.2))))) else (none)) else (none)) else (some (0, 0, 0, false, t1827, t1828, t1829))) = some (r1, r2, r3, r4, r5, r6, r7) := H
  have A1850 := hid A1850_
  clear A1850_
  by_cases c1851 : t1829 = 0
  · rw [if_pos c1851] at H
    have c1851b0 : (t1829 == 0) = true := beq_iff_eq.mpr c1851
    have c1851b1 : (t1829 != 0) = false := bne_eq_false_iff_eq.mpr c1851
    have hc1851 := hid c1851
    clear c1851
    by_cases c1852 : 0 ≤ t1828
    · rw [if_pos c1852] at H
      have c1852b0 : decide (0 ≤ t1828) = true := decide_eq_true c1852
      have hc1852 := hid c1852
      clear c1852
      by_cases c1853 : t1828 < (t1826.length : Int)
      · rw [if_pos c1853] at H
        have c1853b0 : decide (t1828 < (t1826.length : Int)) = true := decide_eq_true c1853
        have hc1853 := hid c1853
        clear c1853
        by_cases c1854 : ((nt t1826 t1828.toNat (0, 0, 0, false)).1) = 5
        · rw [if_pos c1854] at H
          have c1854b0 : (((nt t1826 t1828.toNat (0, 0, 0, false)).1) == 5) = true := beq_iff_eq.mpr c1854
          have c1854b1 : (((nt t1826 t1828.toNat (0, 0, 0, false)).1) != 5) = false := bne_eq_false_iff_eq.mpr c1854
          have hc1854 := hid c1854
          clear c1854
          replace H := Option.bind_eq_some_iff.mp H
          obtain ⟨⟨t1833, t1834, t1835⟩, A1855_, H⟩ := H
          replace H : (if t1835 = 0 then (if t1834 = 0 then ((i_lex_Word.f k a0 t1833 (⟨#[46, 53]⟩ : ByteArray)).bind fun bt1837 => (if bt1837.2.2 = 0 then (some ((nt t1826 t1828.toNat (0, 0, 0, false)).1, (nt t1826 t1828.toNat (0, 0, 0, false)).2.1, t1834, true, bt1837.1, 0, 0)) else (some (0, 0, 0, false, bt1837.1, bt1837.2.1, bt1837.2.2)))) else ((i_stip_halved.f k a0 t1833).bind fun bt1841 => (if bt1841.2.2 = 0 then (some ((nt t1826 t1828.toNat (0, 0, 0, false)).1, (nt t1826 t1828.toNat (0, 0, 0, false)).2.1, t1834, (bt1841.2.1 == 1), bt1841.1, 0, 0)) else (some (0, 0, 0, false, bt1841.1, 0, bt1841.2.2))))) else (some (0, 0, 0, false, t1833, t1834, t1835))) = some (r1, r2, r3, r4, r5, r6, r7) := H
          have A1855 := hid A1855_
          clear A1855_
          by_cases c1856 : t1835 = 0
          · rw [if_pos c1856] at H
            have c1856b0 : (t1835 == 0) = true := beq_iff_eq.mpr c1856
            have c1856b1 : (t1835 != 0) = false := bne_eq_false_iff_eq.mpr c1856
            have hc1856 := hid c1856
            clear c1856
            by_cases c1857 : t1834 = 0
            · rw [if_pos c1857] at H
              have c1857b0 : (t1834 == 0) = true := beq_iff_eq.mpr c1857
              have c1857b1 : (t1834 != 0) = false := bne_eq_false_iff_eq.mpr c1857
              have hc1857 := hid c1857
              clear c1857
              replace H := Option.bind_eq_some_iff.mp H
              obtain ⟨⟨t1837, t1838, t1839⟩, A1858_, H⟩ := H
              replace H : (if t1839 = 0 then (some ((nt t1826 t1828.toNat (0, 0, 0, false)).1, (nt t1826 t1828.toNat (0, 0, 0, false)).2.1, t1834, true, t1837, 0, 0)) else (some (0, 0, 0, false, t1837, t1838, t1839))) = some (r1, r2, r3, r4, r5, r6, r7) := H
              have A1858 := hid A1858_
              clear A1858_
              by_cases c1859 : t1839 = 0
              · rw [if_pos c1859] at H
                have c1859b0 : (t1839 == 0) = true := beq_iff_eq.mpr c1859
                have c1859b1 : (t1839 != 0) = false := bne_eq_false_iff_eq.mpr c1859
                have hc1859 := hid c1859
                clear c1859
                simp only [Option.some.injEq, Prod.mk.injEq] at H
                obtain ⟨rfl, rfl, rfl, rfl, rfl, rfl, rfl⟩ := H
                go_enter Try.func36, Try.ntmps36
                have k1862 := True.intro
                have k1864 := True.intro
                have k1872 := True.intro
                have k1877 := True.intro
                go_wp2_with (first
                  | ((with_reducible refine gate_d (N := 4) rfl ?_); obtain ⟨gb1823, hgb1823⟩ : ∃ g_, w.heap.size = g_ := ⟨_, rfl⟩; refine ag_alloc aT43 gb1823 hgb1823 rfl rfl ?_; intro w1860 hb_ hB_ hs_; have GEb1823 : Hid (w.heap.size ≤ gb1823) := hid (by have := HL.out.size; omega); replace HL := hid (HL.out.trans (hb_.mono GEb1823.out)); have BKb1823 := hid hB_; clear hb_ hB_ hs_ hgb1823)
                  | ((with_reducible refine gate_d (N := 5) rfl ?_); obtain ⟨gb1824, hgb1824⟩ : ∃ g_, w1860.heap.size = g_ := ⟨_, rfl⟩; refine ag_alloc aT26 gb1824 hgb1824 rfl rfl ?_; intro w1861 hb_ hB_ hs_; have GEb1824 : Hid (w.heap.size ≤ gb1824) := hid (by have := HL.out.size; omega); have NBb1823_b1824 : Hid (gb1823 ≠ gb1824) := hid (by have := BKb1823.out.lt; omega); have NBb1824_b1823 : Hid (gb1824 ≠ gb1823) := hid (by have := NBb1823_b1824.out; omega); replace BKb1823 := hid (BKb1823.out.below hb_ (by rw [← hgb1824]; exact BKb1823.out.lt)); replace HL := hid (HL.out.trans (hb_.mono GEb1824.out)); have BKb1824 := hid hB_; clear hb_ hB_ hs_ hgb1824)
                  | (go_at_call 48; clear k1862; refine (i_stip_words.calls k t1825 t1826 _ A1849.out).mono ?_; rintro e_ w1863 ⟨ut1825, ut1826, rfl, so_t1825, so_t1826, hb_⟩; replace so_t1825 := so_t1825.mono HL.out.size; replace so_t1826 := so_t1826.mono HL.out.size; have SWn_t1825 := hid so_t1825; clear so_t1825; have SWn_t1826 := hid so_t1826; clear so_t1826; replace BKb1823 := hid (BKb1823.out.below hb_ BKb1823.out.lt); replace BKb1824 := hid (BKb1824.out.below hb_ BKb1824.out.lt); replace HL := hid (HL.out.trans (hb_.mono HL.out.size)); clear hb_; have SWt1825 := SWn_t1825; clear SWn_t1825; have SWt1826 := SWn_t1826; clear SWn_t1826)
                  | (go_at_call 12; clear k1864; refine (i_lex_OneOf.calls k a0 a1 (ut1825) t1825 t1827 t1828 t1829 _ SWt1825.out.sl A1850.out).mono ?_; rintro e_ w1865 ⟨rfl, hb_⟩; replace BKb1823 := hid (BKb1823.out.below hb_ BKb1823.out.lt); replace BKb1824 := hid (BKb1824.out.below hb_ BKb1824.out.lt); replace SWt1825 := hid (SWt1825.out.below hb_); replace SWt1826 := hid (SWt1826.out.below hb_); replace HL := hid (HL.out.trans (hb_.mono HL.out.size)); clear hb_)
                  | ((with_reducible refine gate_d (N := 8) rfl ?_); obtain ⟨gb1830, hgb1830⟩ : ∃ g_, w1865.heap.size = g_ := ⟨_, rfl⟩; refine ag_alloc aT26 gb1830 hgb1830 rfl rfl ?_; intro w1866 hb_ hB_ hs_; have GEb1830 : Hid (w.heap.size ≤ gb1830) := hid (by have := HL.out.size; omega); have NBb1823_b1830 : Hid (gb1823 ≠ gb1830) := hid (by have := BKb1823.out.lt; omega); have NBb1830_b1823 : Hid (gb1830 ≠ gb1823) := hid (by have := NBb1823_b1830.out; omega); replace BKb1823 := hid (BKb1823.out.below hb_ (by rw [← hgb1830]; exact BKb1823.out.lt)); have NBb1824_b1830 : Hid (gb1824 ≠ gb1830) := hid (by have := BKb1824.out.lt; omega); have NBb1830_b1824 : Hid (gb1830 ≠ gb1824) := hid (by have := NBb1824_b1830.out; omega); replace BKb1824 := hid (BKb1824.out.below hb_ (by rw [← hgb1830]; exact BKb1824.out.lt)); replace SWt1825 := hid (SWt1825.out.below (by rw [hgb1830]; exact hb_)); replace SWt1826 := hid (SWt1826.out.below (by rw [hgb1830]; exact hb_)); replace HL := hid (HL.out.trans (hb_.mono GEb1830.out)); have BKb1830 := hid hB_; clear hb_ hB_ hs_ hgb1830)
                  | ((with_reducible refine gate_s (t := 26) (p := 8) rfl ?_); refine ag_store aT26 gb1830 0 #[.int .i64 0, .int .i64 0, .int .i64 0] #[.int .i64 t1827, .int .i64 t1828, .int .i64 t1829] #[.int .i64 t1827, .int .i64 t1828, .int .i64 t1829] BKb1830.out rfl (by simp) (by intro v_ hv_; simp at hv_; rcases hv_ with rfl | rfl | rfl <;> first | rfl) rfl rfl _ _ rfl rfl rfl ?_; intro w1867 ho_ hB_; replace BKb1823 := hid (BKb1823.out.off ho_ NBb1823_b1830.out); replace BKb1824 := hid (BKb1824.out.off ho_ NBb1824_b1830.out); replace SWt1825 := hid (SWt1825.out.off ho_ BKb1830.out (by decide)); replace SWt1826 := hid (SWt1826.out.off ho_ BKb1830.out (by decide)); replace HL := hid (ho_.below HL.out GEb1830.out); replace BKb1830 := hid hB_; clear ho_ hB_)
                  | ((with_reducible refine gate_d (N := 22) rfl ?_); refine ag_fix (.pointer (some ⟨gb1830, 2, none⟩)) (ex_field 26 2 (.pointer (some ⟨gb1830, 0, none⟩)) (.pointer (some ⟨gb1830, 2, none⟩)) (fa26_2_0 gb1830) _ rfl rfl) rfl ?_)
                  | ((with_reducible refine gate_d (N := 23) rfl ?_); refine ag_fix (.int .i64 t1829) (ex_get sT24 gb1830 (2) (.int .i64 t1829) (#[.int .i64 t1827, .int .i64 t1828, .int .i64 t1829]) BKb1830.out rfl _ rfl rfl) rfl ?_)
                  | ((with_reducible refine gate_d (N := 28) rfl ?_); refine ag_fix (.pointer (some ⟨gb1830, 1, none⟩)) (ex_field 26 1 (.pointer (some ⟨gb1830, 0, none⟩)) (.pointer (some ⟨gb1830, 1, none⟩)) (fa26_1_0 gb1830) _ rfl rfl) rfl ?_)
                  | ((with_reducible refine gate_d (N := 29) rfl ?_); refine ag_fix (.int .i64 t1828) (ex_get sT3 gb1830 (1) (.int .i64 t1828) (#[.int .i64 t1827, .int .i64 t1828, .int .i64 t1829]) BKb1830.out rfl _ rfl rfl) rfl ?_)
                  | ((with_reducible refine gate_d (N := 30) rfl ?_); obtain ⟨ad1831, c1868, hv1869, HCad1831_⟩ := SlN.get (l := t1826) (f := en43) en43_len SWt1826.out.sl (0, 0, 0, false) (i := t1828) hc1852.out hc1853.out; have HCad1831 := hid HCad1831_; clear HCad1831_; refine ag_fix (.pointer (some (ad1831.add (t1828.toNat * 4)))) (ex_satN _ _ t1828 _ _ hv1869 hc1852.out hc1853.out us74 aT43.size _ _ rfl rfl rfl) rfl ?_; clear hv1869)
                  | ((with_reducible refine gate_d (N := 31) rfl ?_); refine ag_fix (.agg #[.int .i64 ((nt t1826 t1828.toNat (0, 0, 0, false)).1), .int .i64 ((nt t1826 t1828.toNat (0, 0, 0, false)).2.1), .int .i64 ((nt t1826 t1828.toNat (0, 0, 0, false)).2.2.1), .bool ((nt t1826 t1828.toNat (0, 0, 0, false)).2.2.2)]) (ex_ldN aT43 _ (en43 (nt t1826 t1828.toNat (0, 0, 0, false))) rfl HCad1831.out _ rfl rfl) rfl ?_)
                  | ((with_reducible refine gate_d (N := 9) rfl ?_); obtain ⟨gb1832, hgb1832⟩ : ∃ g_, w1867.heap.size = g_ := ⟨_, rfl⟩; refine ag_alloc aT43 gb1832 hgb1832 rfl rfl ?_; intro w1870 hb_ hB_ hs_; have GEb1832 : Hid (w.heap.size ≤ gb1832) := hid (by have := HL.out.size; omega); have NBb1823_b1832 : Hid (gb1823 ≠ gb1832) := hid (by have := BKb1823.out.lt; omega); have NBb1832_b1823 : Hid (gb1832 ≠ gb1823) := hid (by have := NBb1823_b1832.out; omega); replace BKb1823 := hid (BKb1823.out.below hb_ (by rw [← hgb1832]; exact BKb1823.out.lt)); have NBb1824_b1832 : Hid (gb1824 ≠ gb1832) := hid (by have := BKb1824.out.lt; omega); have NBb1832_b1824 : Hid (gb1832 ≠ gb1824) := hid (by have := NBb1824_b1832.out; omega); replace BKb1824 := hid (BKb1824.out.below hb_ (by rw [← hgb1832]; exact BKb1824.out.lt)); have NBb1830_b1832 : Hid (gb1830 ≠ gb1832) := hid (by have := BKb1830.out.lt; omega); have NBb1832_b1830 : Hid (gb1832 ≠ gb1830) := hid (by have := NBb1830_b1832.out; omega); replace BKb1830 := hid (BKb1830.out.below hb_ (by rw [← hgb1832]; exact BKb1830.out.lt)); replace SWt1825 := hid (SWt1825.out.below (by rw [hgb1832]; exact hb_)); replace SWt1826 := hid (SWt1826.out.below (by rw [hgb1832]; exact hb_)); replace HL := hid (HL.out.trans (hb_.mono GEb1832.out)); have BKb1832 := hid hB_; clear hb_ hB_ hs_ hgb1832)
                  | ((with_reducible refine gate_s (t := 43) (p := 9) rfl ?_); refine ag_store aT43 gb1832 0 #[.int .i64 0, .int .i64 0, .int .i64 0, .bool false] #[.int .i64 ((nt t1826 t1828.toNat (0, 0, 0, false)).1), .int .i64 ((nt t1826 t1828.toNat (0, 0, 0, false)).2.1), .int .i64 ((nt t1826 t1828.toNat (0, 0, 0, false)).2.2.1), .bool ((nt t1826 t1828.toNat (0, 0, 0, false)).2.2.2)] #[.int .i64 ((nt t1826 t1828.toNat (0, 0, 0, false)).1), .int .i64 ((nt t1826 t1828.toNat (0, 0, 0, false)).2.1), .int .i64 ((nt t1826 t1828.toNat (0, 0, 0, false)).2.2.1), .bool ((nt t1826 t1828.toNat (0, 0, 0, false)).2.2.2)] BKb1832.out rfl (by simp) (by intro v_ hv_; simp at hv_; rcases hv_ with rfl | rfl | rfl | rfl <;> first | rfl) rfl rfl _ _ rfl rfl rfl ?_; intro w1871 ho_ hB_; replace BKb1823 := hid (BKb1823.out.off ho_ NBb1823_b1832.out); replace BKb1824 := hid (BKb1824.out.off ho_ NBb1824_b1832.out); replace BKb1830 := hid (BKb1830.out.off ho_ NBb1830_b1832.out); clear SWt1826; replace SWt1825 := hid (SWt1825.out.off ho_ BKb1832.out (by decide)); replace HL := hid (ho_.below HL.out GEb1832.out); replace BKb1832 := hid hB_; clear ho_ hB_)
                  | ((with_reducible refine gate_d (N := 32) rfl ?_); refine ag_fix (.pointer (some ⟨gb1832, 0, none⟩)) (ex_field 43 0 (.pointer (some ⟨gb1832, 0, none⟩)) (.pointer (some ⟨gb1832, 0, none⟩)) (fa43_0_0 gb1832) _ rfl rfl) rfl ?_)
                  | ((with_reducible refine gate_d (N := 33) rfl ?_); refine ag_fix (.int .i64 ((nt t1826 t1828.toNat (0, 0, 0, false)).1)) (ex_get sT3 gb1832 (0) (.int .i64 ((nt t1826 t1828.toNat (0, 0, 0, false)).1)) (#[.int .i64 ((nt t1826 t1828.toNat (0, 0, 0, false)).1), .int .i64 ((nt t1826 t1828.toNat (0, 0, 0, false)).2.1), .int .i64 ((nt t1826 t1828.toNat (0, 0, 0, false)).2.2.1), .bool ((nt t1826 t1828.toNat (0, 0, 0, false)).2.2.2)]) BKb1832.out rfl _ rfl rfl) rfl ?_)
                  | ((with_reducible refine gate_d (N := 36) rfl ?_); refine ag_fix (.pointer (some ⟨gb1830, 0, none⟩)) (ex_field 26 0 (.pointer (some ⟨gb1830, 0, none⟩)) (.pointer (some ⟨gb1830, 0, none⟩)) (fa26_0_0 gb1830) _ rfl rfl) rfl ?_)
                  | ((with_reducible refine gate_d (N := 37) rfl ?_); refine ag_fix (.int .i64 t1827) (ex_get sT3 gb1830 (0) (.int .i64 t1827) (#[.int .i64 t1827, .int .i64 t1828, .int .i64 t1829]) BKb1830.out rfl _ rfl rfl) rfl ?_)
                  | (go_at_call 14; clear k1872; refine (i_lex_Number.calls k a0 t1827 0 64 t1833 t1834 t1835 _ A1855.out).mono ?_; rintro e_ w1873 ⟨rfl, hb_⟩; replace BKb1823 := hid (BKb1823.out.below hb_ BKb1823.out.lt); replace BKb1824 := hid (BKb1824.out.below hb_ BKb1824.out.lt); replace BKb1830 := hid (BKb1830.out.below hb_ BKb1830.out.lt); replace BKb1832 := hid (BKb1832.out.below hb_ BKb1832.out.lt); replace SWt1825 := hid (SWt1825.out.below hb_); replace HL := hid (HL.out.trans (hb_.mono HL.out.size)); clear hb_)
                  | ((with_reducible refine gate_d (N := 11) rfl ?_); obtain ⟨gb1836, hgb1836⟩ : ∃ g_, w1873.heap.size = g_ := ⟨_, rfl⟩; refine ag_alloc aT26 gb1836 hgb1836 rfl rfl ?_; intro w1874 hb_ hB_ hs_; have GEb1836 : Hid (w.heap.size ≤ gb1836) := hid (by have := HL.out.size; omega); have NBb1823_b1836 : Hid (gb1823 ≠ gb1836) := hid (by have := BKb1823.out.lt; omega); have NBb1836_b1823 : Hid (gb1836 ≠ gb1823) := hid (by have := NBb1823_b1836.out; omega); replace BKb1823 := hid (BKb1823.out.below hb_ (by rw [← hgb1836]; exact BKb1823.out.lt)); have NBb1824_b1836 : Hid (gb1824 ≠ gb1836) := hid (by have := BKb1824.out.lt; omega); have NBb1836_b1824 : Hid (gb1836 ≠ gb1824) := hid (by have := NBb1824_b1836.out; omega); replace BKb1824 := hid (BKb1824.out.below hb_ (by rw [← hgb1836]; exact BKb1824.out.lt)); have NBb1830_b1836 : Hid (gb1830 ≠ gb1836) := hid (by have := BKb1830.out.lt; omega); have NBb1836_b1830 : Hid (gb1836 ≠ gb1830) := hid (by have := NBb1830_b1836.out; omega); replace BKb1830 := hid (BKb1830.out.below hb_ (by rw [← hgb1836]; exact BKb1830.out.lt)); have NBb1832_b1836 : Hid (gb1832 ≠ gb1836) := hid (by have := BKb1832.out.lt; omega); have NBb1836_b1832 : Hid (gb1836 ≠ gb1832) := hid (by have := NBb1832_b1836.out; omega); replace BKb1832 := hid (BKb1832.out.below hb_ (by rw [← hgb1836]; exact BKb1832.out.lt)); replace SWt1825 := hid (SWt1825.out.below (by rw [hgb1836]; exact hb_)); replace HL := hid (HL.out.trans (hb_.mono GEb1836.out)); have BKb1836 := hid hB_; clear hb_ hB_ hs_ hgb1836)
                  | ((with_reducible refine gate_s (t := 26) (p := 11) rfl ?_); refine ag_store aT26 gb1836 0 #[.int .i64 0, .int .i64 0, .int .i64 0] #[.int .i64 t1833, .int .i64 t1834, .int .i64 t1835] #[.int .i64 t1833, .int .i64 t1834, .int .i64 t1835] BKb1836.out rfl (by simp) (by intro v_ hv_; simp at hv_; rcases hv_ with rfl | rfl | rfl <;> first | rfl) rfl rfl _ _ rfl rfl rfl ?_; intro w1875 ho_ hB_; replace BKb1823 := hid (BKb1823.out.off ho_ NBb1823_b1836.out); replace BKb1824 := hid (BKb1824.out.off ho_ NBb1824_b1836.out); replace BKb1830 := hid (BKb1830.out.off ho_ NBb1830_b1836.out); replace BKb1832 := hid (BKb1832.out.off ho_ NBb1832_b1836.out); replace SWt1825 := hid (SWt1825.out.off ho_ BKb1836.out (by decide)); replace HL := hid (ho_.below HL.out GEb1836.out); replace BKb1836 := hid hB_; clear ho_ hB_)
                  | ((with_reducible refine gate_d (N := 40) rfl ?_); refine ag_fix (.pointer (some ⟨gb1836, 2, none⟩)) (ex_field 26 2 (.pointer (some ⟨gb1836, 0, none⟩)) (.pointer (some ⟨gb1836, 2, none⟩)) (fa26_2_0 gb1836) _ rfl rfl) rfl ?_)
                  | ((with_reducible refine gate_d (N := 41) rfl ?_); refine ag_fix (.int .i64 t1835) (ex_get sT24 gb1836 (2) (.int .i64 t1835) (#[.int .i64 t1833, .int .i64 t1834, .int .i64 t1835]) BKb1836.out rfl _ rfl rfl) rfl ?_)
                  | ((with_reducible refine gate_d (N := 45) rfl ?_); refine ag_fix (.pointer (some ⟨gb1836, 1, none⟩)) (ex_field 26 1 (.pointer (some ⟨gb1836, 0, none⟩)) (.pointer (some ⟨gb1836, 1, none⟩)) (fa26_1_0 gb1836) _ rfl rfl) rfl ?_)
                  | ((with_reducible refine gate_d (N := 46) rfl ?_); refine ag_fix (.int .i64 t1834) (ex_get sT3 gb1836 (1) (.int .i64 t1834) (#[.int .i64 t1833, .int .i64 t1834, .int .i64 t1835]) BKb1836.out rfl _ rfl rfl) rfl ?_)
                  | ((with_reducible refine gate_d (N := 47) rfl ?_); refine ag_fix (.pointer (some ⟨gb1832, 2, none⟩)) (ex_field 43 2 (.pointer (some ⟨gb1832, 0, none⟩)) (.pointer (some ⟨gb1832, 2, none⟩)) (fa43_2_0 gb1832) _ rfl rfl) rfl ?_)
                  | ((with_reducible refine gate_s (t := 3) (p := 47) rfl ?_); refine ag_set sT3 gb1832 (2) (.int .i64 t1834) #[.int .i64 ((nt t1826 t1828.toNat (0, 0, 0, false)).1), .int .i64 ((nt t1826 t1828.toNat (0, 0, 0, false)).2.1), .int .i64 ((nt t1826 t1828.toNat (0, 0, 0, false)).2.2.1), .bool ((nt t1826 t1828.toNat (0, 0, 0, false)).2.2.2)] #[.int .i64 ((nt t1826 t1828.toNat (0, 0, 0, false)).1), .int .i64 ((nt t1826 t1828.toNat (0, 0, 0, false)).2.1), .int .i64 t1834, .bool ((nt t1826 t1828.toNat (0, 0, 0, false)).2.2.2)] BKb1832.out (by simp) rfl rfl rfl rfl _ _ rfl rfl rfl ?_; intro w1876 ho_ hB_; replace BKb1823 := hid (BKb1823.out.off ho_ NBb1823_b1832.out); replace BKb1824 := hid (BKb1824.out.off ho_ NBb1824_b1832.out); replace BKb1830 := hid (BKb1830.out.off ho_ NBb1830_b1832.out); replace BKb1836 := hid (BKb1836.out.off ho_ NBb1836_b1832.out); replace SWt1825 := hid (SWt1825.out.off ho_ BKb1832.out (by decide)); replace HL := hid (ho_.below HL.out GEb1832.out); replace BKb1832 := hid hB_; clear ho_ hB_)
                  | ((with_reducible refine gate_d (N := 48) rfl ?_); refine ag_fix (.pointer (some ⟨gb1832, 0, none⟩)) (ex_field 43 0 (.pointer (some ⟨gb1832, 0, none⟩)) (.pointer (some ⟨gb1832, 0, none⟩)) (fa43_0_0 gb1832) _ rfl rfl) rfl ?_)
                  | ((with_reducible refine gate_d (N := 49) rfl ?_); refine ag_fix (.int .i64 ((nt t1826 t1828.toNat (0, 0, 0, false)).1)) (ex_get sT3 gb1832 (0) (.int .i64 ((nt t1826 t1828.toNat (0, 0, 0, false)).1)) (#[.int .i64 ((nt t1826 t1828.toNat (0, 0, 0, false)).1), .int .i64 ((nt t1826 t1828.toNat (0, 0, 0, false)).2.1), .int .i64 t1834, .bool ((nt t1826 t1828.toNat (0, 0, 0, false)).2.2.2)]) BKb1832.out rfl _ rfl rfl) rfl ?_)
                  | ((with_reducible refine gate_d (N := 55) rfl ?_); refine ag_fix (.pointer (some ⟨gb1832, 2, none⟩)) (ex_field 43 2 (.pointer (some ⟨gb1832, 0, none⟩)) (.pointer (some ⟨gb1832, 2, none⟩)) (fa43_2_0 gb1832) _ rfl rfl) rfl ?_)
                  | ((with_reducible refine gate_d (N := 56) rfl ?_); refine ag_fix (.int .i64 t1834) (ex_get sT3 gb1832 (2) (.int .i64 t1834) (#[.int .i64 ((nt t1826 t1828.toNat (0, 0, 0, false)).1), .int .i64 ((nt t1826 t1828.toNat (0, 0, 0, false)).2.1), .int .i64 t1834, .bool ((nt t1826 t1828.toNat (0, 0, 0, false)).2.2.2)]) BKb1832.out rfl _ rfl rfl) rfl ?_)
                  | ((with_reducible refine gate_d (N := 59) rfl ?_); refine ag_fix (.pointer (some ⟨gb1836, 0, none⟩)) (ex_field 26 0 (.pointer (some ⟨gb1836, 0, none⟩)) (.pointer (some ⟨gb1836, 0, none⟩)) (fa26_0_0 gb1836) _ rfl rfl) rfl ?_)
                  | ((with_reducible refine gate_d (N := 60) rfl ?_); refine ag_fix (.int .i64 t1833) (ex_get sT3 gb1836 (0) (.int .i64 t1833) (#[.int .i64 t1833, .int .i64 t1834, .int .i64 t1835]) BKb1836.out rfl _ rfl rfl) rfl ?_)
                  | (go_at_call 10; clear k1877; refine (i_lex_Word.calls k a0 t1833 (⟨#[46, 53]⟩ : ByteArray) t1837 t1838 t1839 _ A1858.out).mono ?_; rintro e_ w1878 ⟨rfl, hb_⟩; replace BKb1823 := hid (BKb1823.out.below hb_ BKb1823.out.lt); replace BKb1824 := hid (BKb1824.out.below hb_ BKb1824.out.lt); replace BKb1830 := hid (BKb1830.out.below hb_ BKb1830.out.lt); replace BKb1832 := hid (BKb1832.out.below hb_ BKb1832.out.lt); replace BKb1836 := hid (BKb1836.out.below hb_ BKb1836.out.lt); replace SWt1825 := hid (SWt1825.out.below hb_); replace HL := hid (HL.out.trans (hb_.mono HL.out.size)); clear hb_)
                  | ((with_reducible refine gate_d (N := 12) rfl ?_); obtain ⟨gb1840, hgb1840⟩ : ∃ g_, w1878.heap.size = g_ := ⟨_, rfl⟩; refine ag_alloc aT26 gb1840 hgb1840 rfl rfl ?_; intro w1879 hb_ hB_ hs_; have GEb1840 : Hid (w.heap.size ≤ gb1840) := hid (by have := HL.out.size; omega); have NBb1823_b1840 : Hid (gb1823 ≠ gb1840) := hid (by have := BKb1823.out.lt; omega); have NBb1840_b1823 : Hid (gb1840 ≠ gb1823) := hid (by have := NBb1823_b1840.out; omega); replace BKb1823 := hid (BKb1823.out.below hb_ (by rw [← hgb1840]; exact BKb1823.out.lt)); have NBb1824_b1840 : Hid (gb1824 ≠ gb1840) := hid (by have := BKb1824.out.lt; omega); have NBb1840_b1824 : Hid (gb1840 ≠ gb1824) := hid (by have := NBb1824_b1840.out; omega); replace BKb1824 := hid (BKb1824.out.below hb_ (by rw [← hgb1840]; exact BKb1824.out.lt)); have NBb1830_b1840 : Hid (gb1830 ≠ gb1840) := hid (by have := BKb1830.out.lt; omega); have NBb1840_b1830 : Hid (gb1840 ≠ gb1830) := hid (by have := NBb1830_b1840.out; omega); replace BKb1830 := hid (BKb1830.out.below hb_ (by rw [← hgb1840]; exact BKb1830.out.lt)); have NBb1832_b1840 : Hid (gb1832 ≠ gb1840) := hid (by have := BKb1832.out.lt; omega); have NBb1840_b1832 : Hid (gb1840 ≠ gb1832) := hid (by have := NBb1832_b1840.out; omega); replace BKb1832 := hid (BKb1832.out.below hb_ (by rw [← hgb1840]; exact BKb1832.out.lt)); have NBb1836_b1840 : Hid (gb1836 ≠ gb1840) := hid (by have := BKb1836.out.lt; omega); have NBb1840_b1836 : Hid (gb1840 ≠ gb1836) := hid (by have := NBb1836_b1840.out; omega); replace BKb1836 := hid (BKb1836.out.below hb_ (by rw [← hgb1840]; exact BKb1836.out.lt)); replace SWt1825 := hid (SWt1825.out.below (by rw [hgb1840]; exact hb_)); replace HL := hid (HL.out.trans (hb_.mono GEb1840.out)); have BKb1840 := hid hB_; clear hb_ hB_ hs_ hgb1840)
                  | ((with_reducible refine gate_s (t := 26) (p := 12) rfl ?_); refine ag_store aT26 gb1840 0 #[.int .i64 0, .int .i64 0, .int .i64 0] #[.int .i64 t1837, .int .i64 t1838, .int .i64 t1839] #[.int .i64 t1837, .int .i64 t1838, .int .i64 t1839] BKb1840.out rfl (by simp) (by intro v_ hv_; simp at hv_; rcases hv_ with rfl | rfl | rfl <;> first | rfl) rfl rfl _ _ rfl rfl rfl ?_; intro w1880 ho_ hB_; replace BKb1823 := hid (BKb1823.out.off ho_ NBb1823_b1840.out); replace BKb1824 := hid (BKb1824.out.off ho_ NBb1824_b1840.out); replace BKb1830 := hid (BKb1830.out.off ho_ NBb1830_b1840.out); replace BKb1832 := hid (BKb1832.out.off ho_ NBb1832_b1840.out); replace BKb1836 := hid (BKb1836.out.off ho_ NBb1836_b1840.out); replace SWt1825 := hid (SWt1825.out.off ho_ BKb1840.out (by decide)); replace HL := hid (ho_.below HL.out GEb1840.out); replace BKb1840 := hid hB_; clear ho_ hB_)
                  | ((with_reducible refine gate_d (N := 62) rfl ?_); refine ag_fix (.pointer (some ⟨gb1840, 2, none⟩)) (ex_field 26 2 (.pointer (some ⟨gb1840, 0, none⟩)) (.pointer (some ⟨gb1840, 2, none⟩)) (fa26_2_0 gb1840) _ rfl rfl) rfl ?_)
                  | ((with_reducible refine gate_d (N := 63) rfl ?_); refine ag_fix (.int .i64 t1839) (ex_get sT24 gb1840 (2) (.int .i64 t1839) (#[.int .i64 t1837, .int .i64 t1838, .int .i64 t1839]) BKb1840.out rfl _ rfl rfl) rfl ?_)
                  | ((with_reducible refine gate_d (N := 67) rfl ?_); refine ag_fix (.pointer (some ⟨gb1832, 3, none⟩)) (ex_field 43 3 (.pointer (some ⟨gb1832, 0, none⟩)) (.pointer (some ⟨gb1832, 3, none⟩)) (fa43_3_0 gb1832) _ rfl rfl) rfl ?_)
                  | ((with_reducible refine gate_s (t := 4) (p := 67) rfl ?_); refine ag_set sT4 gb1832 (3) (.bool true) #[.int .i64 ((nt t1826 t1828.toNat (0, 0, 0, false)).1), .int .i64 ((nt t1826 t1828.toNat (0, 0, 0, false)).2.1), .int .i64 t1834, .bool ((nt t1826 t1828.toNat (0, 0, 0, false)).2.2.2)] #[.int .i64 ((nt t1826 t1828.toNat (0, 0, 0, false)).1), .int .i64 ((nt t1826 t1828.toNat (0, 0, 0, false)).2.1), .int .i64 t1834, .bool true] BKb1832.out (by simp) rfl rfl rfl rfl _ _ rfl rfl rfl ?_; intro w1881 ho_ hB_; replace BKb1823 := hid (BKb1823.out.off ho_ NBb1823_b1832.out); replace BKb1824 := hid (BKb1824.out.off ho_ NBb1824_b1832.out); replace BKb1830 := hid (BKb1830.out.off ho_ NBb1830_b1832.out); replace BKb1836 := hid (BKb1836.out.off ho_ NBb1836_b1832.out); replace BKb1840 := hid (BKb1840.out.off ho_ NBb1840_b1832.out); replace SWt1825 := hid (SWt1825.out.off ho_ BKb1832.out (by decide)); replace HL := hid (ho_.below HL.out GEb1832.out); replace BKb1832 := hid hB_; clear ho_ hB_))
                (try simp only [Act.put, List.setIfInBounds_toArray, List.set_cons_zero, List.set_cons_succ])
                have WR64 := i64_w
                have WR32 := i32_w
                refine sq_region (fun w'_ => Below w.heap.size w w'_ ∧ Blk w'_ gb1830 26 #[.int .i64 t1827, .int .i64 t1828, .int .i64 t1829] ∧ Blk w'_ gb1832 43 #[.int .i64 ((nt t1826 t1828.toNat (0, 0, 0, false)).1), .int .i64 ((nt t1826 t1828.toNat (0, 0, 0, false)).2.1), .int .i64 t1834, .bool true] ∧ Blk w'_ gb1836 26 #[.int .i64 t1833, .int .i64 t1834, .int .i64 t1835] ∧ Blk w'_ gb1840 26 #[.int .i64 t1837, .int .i64 t1838, .int .i64 t1839] ∧ Own w'_ w.heap.size 9 (ut1825) (t1825.map Value.string) ∧ True) [5] [(0, true), (1, true), (2, true), (3, true), (4, false), (5, false)] (by kernel_rfl) (by kernel_rfl) (by kernel_rfl) rfl ?_
                intro w1882 hb_
                replace BKb1823 := hid (BKb1823.out.below hb_ BKb1823.out.lt)
                replace BKb1824 := hid (BKb1824.out.below hb_ BKb1824.out.lt)
                replace BKb1830 := hid (BKb1830.out.below hb_ BKb1830.out.lt)
                replace BKb1832 := hid (BKb1832.out.below hb_ BKb1832.out.lt)
                replace BKb1836 := hid (BKb1836.out.below hb_ BKb1836.out.lt)
                replace BKb1840 := hid (BKb1840.out.below hb_ BKb1840.out.lt)
                replace SWt1825 := hid (SWt1825.out.below hb_)
                replace HL := hid (HL.out.trans (hb_.mono HL.out.size))
                clear hb_
                refine sq_take (.agg #[.int .i64 ((nt t1826 t1828.toNat (0, 0, 0, false)).1), .int .i64 ((nt t1826 t1828.toNat (0, 0, 0, false)).2.1), .int .i64 t1834, .bool true]) ⟨HL.out, BKb1830.out, BKb1832.out, BKb1836.out, BKb1840.out, SWt1825.out, trivial⟩ rfl (fun w'_ hS_ => ex_load aT43 gb1832 0 #[.int .i64 ((nt t1826 t1828.toNat (0, 0, 0, false)).1), .int .i64 ((nt t1826 t1828.toNat (0, 0, 0, false)).2.1), .int .i64 t1834, .bool true] #[.int .i64 ((nt t1826 t1828.toNat (0, 0, 0, false)).1), .int .i64 ((nt t1826 t1828.toNat (0, 0, 0, false)).2.1), .int .i64 t1834, .bool true] hS_.2.2.1 (by simp) rfl _ rfl rfl) rfl rfl ?_
                intro ts_ ht_; simp only [List.setIfInBounds_toArray, List.set_cons_zero, List.set_cons_succ] at ht_; subst ht_
                refine sq_take (.pointer (some ⟨gb1840, 0, none⟩)) ⟨HL.out, BKb1830.out, BKb1832.out, BKb1836.out, BKb1840.out, SWt1825.out, trivial⟩ rfl (fun w'_ hS_ => ex_field 26 0 (.pointer (some ⟨gb1840, 0, none⟩)) (.pointer (some ⟨gb1840, 0, none⟩)) (fa26_0_0 gb1840) _ rfl rfl) rfl rfl ?_
                intro ts_ ht_; simp only [List.setIfInBounds_toArray, List.set_cons_zero, List.set_cons_succ] at ht_; subst ht_
                refine sq_take (.int .i64 t1837) ⟨HL.out, BKb1830.out, BKb1832.out, BKb1836.out, BKb1840.out, SWt1825.out, trivial⟩ rfl (fun w'_ hS_ => ex_get sT3 gb1840 (0) (.int .i64 t1837) (#[.int .i64 t1837, .int .i64 t1838, .int .i64 t1839]) hS_.2.2.2.2.1 rfl _ rfl rfl) rfl rfl ?_
                intro ts_ ht_; simp only [List.setIfInBounds_toArray, List.set_cons_zero, List.set_cons_succ] at ht_; subst ht_
                refine sq_take (.agg #[.int .i64 t1837, .int .i64 0, .int .i64 0]) ⟨HL.out, BKb1830.out, BKb1832.out, BKb1836.out, BKb1840.out, SWt1825.out, trivial⟩ rfl (fun w'_ hS_ => ex_build (.agg #[.int .i64 t1837, .int .i64 0, .int .i64 0]) _ rfl (by intro ww_; simp only [List.map_toArray, List.map_cons, List.map_nil]; kernel_rfl)) rfl rfl ?_
                intro ts_ ht_; simp only [List.setIfInBounds_toArray, List.set_cons_zero, List.set_cons_succ] at ht_; subst ht_
                refine sq_act rfl (fun Q'_ hQ_ => ?_)
                (with_reducible refine gate_s (t := 43) (p := 4) rfl ?_)
                refine ag_store aT43 gb1823 0 #[.int .i64 0, .int .i64 0, .int .i64 0, .bool false] #[.int .i64 ((nt t1826 t1828.toNat (0, 0, 0, false)).1), .int .i64 ((nt t1826 t1828.toNat (0, 0, 0, false)).2.1), .int .i64 t1834, .bool true] #[.int .i64 ((nt t1826 t1828.toNat (0, 0, 0, false)).1), .int .i64 ((nt t1826 t1828.toNat (0, 0, 0, false)).2.1), .int .i64 t1834, .bool true] BKb1823.out rfl (by simp) (by intro v_ hv_; simp at hv_; rcases hv_ with rfl | rfl | rfl | rfl <;> first | rfl) rfl rfl _ _ rfl rfl rfl ?_
                intro w1883 ho_ hB_
                replace BKb1824 := hid (BKb1824.out.off ho_ NBb1824_b1823.out)
                replace BKb1830 := hid (BKb1830.out.off ho_ NBb1830_b1823.out)
                replace BKb1832 := hid (BKb1832.out.off ho_ NBb1832_b1823.out)
                replace BKb1836 := hid (BKb1836.out.off ho_ NBb1836_b1823.out)
                replace BKb1840 := hid (BKb1840.out.off ho_ NBb1840_b1823.out)
                replace SWt1825 := hid (SWt1825.out.off ho_ BKb1823.out (by decide))
                replace HL := hid (ho_.below HL.out GEb1823.out)
                replace BKb1823 := hid hB_
                clear ho_ hB_
                refine act_end ?_
                refine hQ_ _ _ (fun _ => ⟨HL.out, BKb1830.out, BKb1832.out, BKb1836.out, BKb1840.out, SWt1825.out, trivial⟩) ?_
                clear hQ_ Q'_
                simp only [Act.put]
                refine sq_act rfl (fun Q'_ hQ_ => ?_)
                (with_reducible refine gate_s (t := 26) (p := 5) rfl ?_)
                refine ag_store aT26 gb1824 0 #[.int .i64 0, .int .i64 0, .int .i64 0] #[.int .i64 t1837, .int .i64 0, .int .i64 0] #[.int .i64 t1837, .int .i64 0, .int .i64 0] BKb1824.out rfl (by simp) (by intro v_ hv_; simp at hv_; rcases hv_ with rfl | rfl | rfl <;> first | rfl) rfl rfl _ _ rfl rfl rfl ?_
                intro w1884 ho_ hB_
                replace BKb1823 := hid (BKb1823.out.off ho_ NBb1823_b1824.out)
                replace BKb1830 := hid (BKb1830.out.off ho_ NBb1830_b1824.out)
                replace BKb1832 := hid (BKb1832.out.off ho_ NBb1832_b1824.out)
                replace BKb1836 := hid (BKb1836.out.off ho_ NBb1836_b1824.out)
                replace BKb1840 := hid (BKb1840.out.off ho_ NBb1840_b1824.out)
                replace SWt1825 := hid (SWt1825.out.off ho_ BKb1824.out (by decide))
                replace HL := hid (ho_.below HL.out GEb1824.out)
                replace BKb1824 := hid hB_
                clear ho_ hB_
                refine act_end ?_
                refine hQ_ _ _ (fun h_ => absurd h_ (by decide)) ?_
                clear hQ_ Q'_
                simp only [Act.put]
                refine sq_end ?_
                clear WR64 WR32
                go_wp2_with fail
                (try simp only [Act.put, List.setIfInBounds_toArray, List.set_cons_zero, List.set_cons_succ])
                refine bodyPost_ret (v := .tuple #[.agg #[.int .i64 ((nt t1826 t1828.toNat (0, 0, 0, false)).1), .int .i64 ((nt t1826 t1828.toNat (0, 0, 0, false)).2.1), .int .i64 t1834, .bool true], .agg #[.int .i64 t1837, .int .i64 0, .int .i64 0]]) (res_cc aT43 aT26 rfl _ gb1823 gb1824 #[.int .i64 ((nt t1826 t1828.toNat (0, 0, 0, false)).1), .int .i64 ((nt t1826 t1828.toNat (0, 0, 0, false)).2.1), .int .i64 t1834, .bool true] #[.int .i64 t1837, .int .i64 0, .int .i64 0] BKb1823.out rfl rfl BKb1824.out rfl rfl) rfl ?_
                exact ⟨by first | rfl | (simp; done) | (simp [*]; done), HL.out⟩
              · rw [if_neg c1859] at H
                have c1859b0 : (t1839 == 0) = false := beq_eq_false_iff_ne.mpr c1859
                have c1859b1 : (t1839 != 0) = true := bne_iff_ne.mpr c1859
                have hc1859 := hid c1859
                clear c1859
                simp only [Option.some.injEq, Prod.mk.injEq] at H
                obtain ⟨rfl, rfl, rfl, rfl, rfl, rfl, rfl⟩ := H
                go_enter Try.func36, Try.ntmps36
                have k1887 := True.intro
                have k1889 := True.intro
                have k1897 := True.intro
                have k1902 := True.intro
                go_wp2_with (first
                  | ((with_reducible refine gate_d (N := 4) rfl ?_); obtain ⟨gb1823, hgb1823⟩ : ∃ g_, w.heap.size = g_ := ⟨_, rfl⟩; refine ag_alloc aT43 gb1823 hgb1823 rfl rfl ?_; intro w1885 hb_ hB_ hs_; have GEb1823 : Hid (w.heap.size ≤ gb1823) := hid (by have := HL.out.size; omega); replace HL := hid (HL.out.trans (hb_.mono GEb1823.out)); have BKb1823 := hid hB_; clear hb_ hB_ hs_ hgb1823)
                  | ((with_reducible refine gate_d (N := 5) rfl ?_); obtain ⟨gb1824, hgb1824⟩ : ∃ g_, w1885.heap.size = g_ := ⟨_, rfl⟩; refine ag_alloc aT26 gb1824 hgb1824 rfl rfl ?_; intro w1886 hb_ hB_ hs_; have GEb1824 : Hid (w.heap.size ≤ gb1824) := hid (by have := HL.out.size; omega); have NBb1823_b1824 : Hid (gb1823 ≠ gb1824) := hid (by have := BKb1823.out.lt; omega); have NBb1824_b1823 : Hid (gb1824 ≠ gb1823) := hid (by have := NBb1823_b1824.out; omega); replace BKb1823 := hid (BKb1823.out.below hb_ (by rw [← hgb1824]; exact BKb1823.out.lt)); replace HL := hid (HL.out.trans (hb_.mono GEb1824.out)); have BKb1824 := hid hB_; clear hb_ hB_ hs_ hgb1824)
                  | (go_at_call 48; clear k1887; refine (i_stip_words.calls k t1825 t1826 _ A1849.out).mono ?_; rintro e_ w1888 ⟨ut1825, ut1826, rfl, so_t1825, so_t1826, hb_⟩; replace so_t1825 := so_t1825.mono HL.out.size; replace so_t1826 := so_t1826.mono HL.out.size; have SWn_t1825 := hid so_t1825; clear so_t1825; have SWn_t1826 := hid so_t1826; clear so_t1826; replace BKb1823 := hid (BKb1823.out.below hb_ BKb1823.out.lt); replace BKb1824 := hid (BKb1824.out.below hb_ BKb1824.out.lt); replace HL := hid (HL.out.trans (hb_.mono HL.out.size)); clear hb_; have SWt1825 := SWn_t1825; clear SWn_t1825; have SWt1826 := SWn_t1826; clear SWn_t1826)
                  | (go_at_call 12; clear k1889; refine (i_lex_OneOf.calls k a0 a1 (ut1825) t1825 t1827 t1828 t1829 _ SWt1825.out.sl A1850.out).mono ?_; rintro e_ w1890 ⟨rfl, hb_⟩; replace BKb1823 := hid (BKb1823.out.below hb_ BKb1823.out.lt); replace BKb1824 := hid (BKb1824.out.below hb_ BKb1824.out.lt); replace SWt1825 := hid (SWt1825.out.below hb_); replace SWt1826 := hid (SWt1826.out.below hb_); replace HL := hid (HL.out.trans (hb_.mono HL.out.size)); clear hb_)
                  | ((with_reducible refine gate_d (N := 8) rfl ?_); obtain ⟨gb1830, hgb1830⟩ : ∃ g_, w1890.heap.size = g_ := ⟨_, rfl⟩; refine ag_alloc aT26 gb1830 hgb1830 rfl rfl ?_; intro w1891 hb_ hB_ hs_; have GEb1830 : Hid (w.heap.size ≤ gb1830) := hid (by have := HL.out.size; omega); have NBb1823_b1830 : Hid (gb1823 ≠ gb1830) := hid (by have := BKb1823.out.lt; omega); have NBb1830_b1823 : Hid (gb1830 ≠ gb1823) := hid (by have := NBb1823_b1830.out; omega); replace BKb1823 := hid (BKb1823.out.below hb_ (by rw [← hgb1830]; exact BKb1823.out.lt)); have NBb1824_b1830 : Hid (gb1824 ≠ gb1830) := hid (by have := BKb1824.out.lt; omega); have NBb1830_b1824 : Hid (gb1830 ≠ gb1824) := hid (by have := NBb1824_b1830.out; omega); replace BKb1824 := hid (BKb1824.out.below hb_ (by rw [← hgb1830]; exact BKb1824.out.lt)); replace SWt1825 := hid (SWt1825.out.below (by rw [hgb1830]; exact hb_)); replace SWt1826 := hid (SWt1826.out.below (by rw [hgb1830]; exact hb_)); replace HL := hid (HL.out.trans (hb_.mono GEb1830.out)); have BKb1830 := hid hB_; clear hb_ hB_ hs_ hgb1830)
                  | ((with_reducible refine gate_s (t := 26) (p := 8) rfl ?_); refine ag_store aT26 gb1830 0 #[.int .i64 0, .int .i64 0, .int .i64 0] #[.int .i64 t1827, .int .i64 t1828, .int .i64 t1829] #[.int .i64 t1827, .int .i64 t1828, .int .i64 t1829] BKb1830.out rfl (by simp) (by intro v_ hv_; simp at hv_; rcases hv_ with rfl | rfl | rfl <;> first | rfl) rfl rfl _ _ rfl rfl rfl ?_; intro w1892 ho_ hB_; replace BKb1823 := hid (BKb1823.out.off ho_ NBb1823_b1830.out); replace BKb1824 := hid (BKb1824.out.off ho_ NBb1824_b1830.out); replace SWt1825 := hid (SWt1825.out.off ho_ BKb1830.out (by decide)); replace SWt1826 := hid (SWt1826.out.off ho_ BKb1830.out (by decide)); replace HL := hid (ho_.below HL.out GEb1830.out); replace BKb1830 := hid hB_; clear ho_ hB_)
                  | ((with_reducible refine gate_d (N := 22) rfl ?_); refine ag_fix (.pointer (some ⟨gb1830, 2, none⟩)) (ex_field 26 2 (.pointer (some ⟨gb1830, 0, none⟩)) (.pointer (some ⟨gb1830, 2, none⟩)) (fa26_2_0 gb1830) _ rfl rfl) rfl ?_)
                  | ((with_reducible refine gate_d (N := 23) rfl ?_); refine ag_fix (.int .i64 t1829) (ex_get sT24 gb1830 (2) (.int .i64 t1829) (#[.int .i64 t1827, .int .i64 t1828, .int .i64 t1829]) BKb1830.out rfl _ rfl rfl) rfl ?_)
                  | ((with_reducible refine gate_d (N := 28) rfl ?_); refine ag_fix (.pointer (some ⟨gb1830, 1, none⟩)) (ex_field 26 1 (.pointer (some ⟨gb1830, 0, none⟩)) (.pointer (some ⟨gb1830, 1, none⟩)) (fa26_1_0 gb1830) _ rfl rfl) rfl ?_)
                  | ((with_reducible refine gate_d (N := 29) rfl ?_); refine ag_fix (.int .i64 t1828) (ex_get sT3 gb1830 (1) (.int .i64 t1828) (#[.int .i64 t1827, .int .i64 t1828, .int .i64 t1829]) BKb1830.out rfl _ rfl rfl) rfl ?_)
                  | ((with_reducible refine gate_d (N := 30) rfl ?_); obtain ⟨ad1831, c1893, hv1894, HCad1831_⟩ := SlN.get (l := t1826) (f := en43) en43_len SWt1826.out.sl (0, 0, 0, false) (i := t1828) hc1852.out hc1853.out; have HCad1831 := hid HCad1831_; clear HCad1831_; refine ag_fix (.pointer (some (ad1831.add (t1828.toNat * 4)))) (ex_satN _ _ t1828 _ _ hv1894 hc1852.out hc1853.out us74 aT43.size _ _ rfl rfl rfl) rfl ?_; clear hv1894)
                  | ((with_reducible refine gate_d (N := 31) rfl ?_); refine ag_fix (.agg #[.int .i64 ((nt t1826 t1828.toNat (0, 0, 0, false)).1), .int .i64 ((nt t1826 t1828.toNat (0, 0, 0, false)).2.1), .int .i64 ((nt t1826 t1828.toNat (0, 0, 0, false)).2.2.1), .bool ((nt t1826 t1828.toNat (0, 0, 0, false)).2.2.2)]) (ex_ldN aT43 _ (en43 (nt t1826 t1828.toNat (0, 0, 0, false))) rfl HCad1831.out _ rfl rfl) rfl ?_)
                  | ((with_reducible refine gate_d (N := 9) rfl ?_); obtain ⟨gb1832, hgb1832⟩ : ∃ g_, w1892.heap.size = g_ := ⟨_, rfl⟩; refine ag_alloc aT43 gb1832 hgb1832 rfl rfl ?_; intro w1895 hb_ hB_ hs_; have GEb1832 : Hid (w.heap.size ≤ gb1832) := hid (by have := HL.out.size; omega); have NBb1823_b1832 : Hid (gb1823 ≠ gb1832) := hid (by have := BKb1823.out.lt; omega); have NBb1832_b1823 : Hid (gb1832 ≠ gb1823) := hid (by have := NBb1823_b1832.out; omega); replace BKb1823 := hid (BKb1823.out.below hb_ (by rw [← hgb1832]; exact BKb1823.out.lt)); have NBb1824_b1832 : Hid (gb1824 ≠ gb1832) := hid (by have := BKb1824.out.lt; omega); have NBb1832_b1824 : Hid (gb1832 ≠ gb1824) := hid (by have := NBb1824_b1832.out; omega); replace BKb1824 := hid (BKb1824.out.below hb_ (by rw [← hgb1832]; exact BKb1824.out.lt)); have NBb1830_b1832 : Hid (gb1830 ≠ gb1832) := hid (by have := BKb1830.out.lt; omega); have NBb1832_b1830 : Hid (gb1832 ≠ gb1830) := hid (by have := NBb1830_b1832.out; omega); replace BKb1830 := hid (BKb1830.out.below hb_ (by rw [← hgb1832]; exact BKb1830.out.lt)); replace SWt1825 := hid (SWt1825.out.below (by rw [hgb1832]; exact hb_)); replace SWt1826 := hid (SWt1826.out.below (by rw [hgb1832]; exact hb_)); replace HL := hid (HL.out.trans (hb_.mono GEb1832.out)); have BKb1832 := hid hB_; clear hb_ hB_ hs_ hgb1832)
                  | ((with_reducible refine gate_s (t := 43) (p := 9) rfl ?_); refine ag_store aT43 gb1832 0 #[.int .i64 0, .int .i64 0, .int .i64 0, .bool false] #[.int .i64 ((nt t1826 t1828.toNat (0, 0, 0, false)).1), .int .i64 ((nt t1826 t1828.toNat (0, 0, 0, false)).2.1), .int .i64 ((nt t1826 t1828.toNat (0, 0, 0, false)).2.2.1), .bool ((nt t1826 t1828.toNat (0, 0, 0, false)).2.2.2)] #[.int .i64 ((nt t1826 t1828.toNat (0, 0, 0, false)).1), .int .i64 ((nt t1826 t1828.toNat (0, 0, 0, false)).2.1), .int .i64 ((nt t1826 t1828.toNat (0, 0, 0, false)).2.2.1), .bool ((nt t1826 t1828.toNat (0, 0, 0, false)).2.2.2)] BKb1832.out rfl (by simp) (by intro v_ hv_; simp at hv_; rcases hv_ with rfl | rfl | rfl | rfl <;> first | rfl) rfl rfl _ _ rfl rfl rfl ?_; intro w1896 ho_ hB_; replace BKb1823 := hid (BKb1823.out.off ho_ NBb1823_b1832.out); replace BKb1824 := hid (BKb1824.out.off ho_ NBb1824_b1832.out); replace BKb1830 := hid (BKb1830.out.off ho_ NBb1830_b1832.out); clear SWt1826; replace SWt1825 := hid (SWt1825.out.off ho_ BKb1832.out (by decide)); replace HL := hid (ho_.below HL.out GEb1832.out); replace BKb1832 := hid hB_; clear ho_ hB_)
                  | ((with_reducible refine gate_d (N := 32) rfl ?_); refine ag_fix (.pointer (some ⟨gb1832, 0, none⟩)) (ex_field 43 0 (.pointer (some ⟨gb1832, 0, none⟩)) (.pointer (some ⟨gb1832, 0, none⟩)) (fa43_0_0 gb1832) _ rfl rfl) rfl ?_)
                  | ((with_reducible refine gate_d (N := 33) rfl ?_); refine ag_fix (.int .i64 ((nt t1826 t1828.toNat (0, 0, 0, false)).1)) (ex_get sT3 gb1832 (0) (.int .i64 ((nt t1826 t1828.toNat (0, 0, 0, false)).1)) (#[.int .i64 ((nt t1826 t1828.toNat (0, 0, 0, false)).1), .int .i64 ((nt t1826 t1828.toNat (0, 0, 0, false)).2.1), .int .i64 ((nt t1826 t1828.toNat (0, 0, 0, false)).2.2.1), .bool ((nt t1826 t1828.toNat (0, 0, 0, false)).2.2.2)]) BKb1832.out rfl _ rfl rfl) rfl ?_)
                  | ((with_reducible refine gate_d (N := 36) rfl ?_); refine ag_fix (.pointer (some ⟨gb1830, 0, none⟩)) (ex_field 26 0 (.pointer (some ⟨gb1830, 0, none⟩)) (.pointer (some ⟨gb1830, 0, none⟩)) (fa26_0_0 gb1830) _ rfl rfl) rfl ?_)
                  | ((with_reducible refine gate_d (N := 37) rfl ?_); refine ag_fix (.int .i64 t1827) (ex_get sT3 gb1830 (0) (.int .i64 t1827) (#[.int .i64 t1827, .int .i64 t1828, .int .i64 t1829]) BKb1830.out rfl _ rfl rfl) rfl ?_)
                  | (go_at_call 14; clear k1897; refine (i_lex_Number.calls k a0 t1827 0 64 t1833 t1834 t1835 _ A1855.out).mono ?_; rintro e_ w1898 ⟨rfl, hb_⟩; replace BKb1823 := hid (BKb1823.out.below hb_ BKb1823.out.lt); replace BKb1824 := hid (BKb1824.out.below hb_ BKb1824.out.lt); replace BKb1830 := hid (BKb1830.out.below hb_ BKb1830.out.lt); replace BKb1832 := hid (BKb1832.out.below hb_ BKb1832.out.lt); replace SWt1825 := hid (SWt1825.out.below hb_); replace HL := hid (HL.out.trans (hb_.mono HL.out.size)); clear hb_)
                  | ((with_reducible refine gate_d (N := 11) rfl ?_); obtain ⟨gb1836, hgb1836⟩ : ∃ g_, w1898.heap.size = g_ := ⟨_, rfl⟩; refine ag_alloc aT26 gb1836 hgb1836 rfl rfl ?_; intro w1899 hb_ hB_ hs_; have GEb1836 : Hid (w.heap.size ≤ gb1836) := hid (by have := HL.out.size; omega); have NBb1823_b1836 : Hid (gb1823 ≠ gb1836) := hid (by have := BKb1823.out.lt; omega); have NBb1836_b1823 : Hid (gb1836 ≠ gb1823) := hid (by have := NBb1823_b1836.out; omega); replace BKb1823 := hid (BKb1823.out.below hb_ (by rw [← hgb1836]; exact BKb1823.out.lt)); have NBb1824_b1836 : Hid (gb1824 ≠ gb1836) := hid (by have := BKb1824.out.lt; omega); have NBb1836_b1824 : Hid (gb1836 ≠ gb1824) := hid (by have := NBb1824_b1836.out; omega); replace BKb1824 := hid (BKb1824.out.below hb_ (by rw [← hgb1836]; exact BKb1824.out.lt)); have NBb1830_b1836 : Hid (gb1830 ≠ gb1836) := hid (by have := BKb1830.out.lt; omega); have NBb1836_b1830 : Hid (gb1836 ≠ gb1830) := hid (by have := NBb1830_b1836.out; omega); replace BKb1830 := hid (BKb1830.out.below hb_ (by rw [← hgb1836]; exact BKb1830.out.lt)); have NBb1832_b1836 : Hid (gb1832 ≠ gb1836) := hid (by have := BKb1832.out.lt; omega); have NBb1836_b1832 : Hid (gb1836 ≠ gb1832) := hid (by have := NBb1832_b1836.out; omega); replace BKb1832 := hid (BKb1832.out.below hb_ (by rw [← hgb1836]; exact BKb1832.out.lt)); replace SWt1825 := hid (SWt1825.out.below (by rw [hgb1836]; exact hb_)); replace HL := hid (HL.out.trans (hb_.mono GEb1836.out)); have BKb1836 := hid hB_; clear hb_ hB_ hs_ hgb1836)
                  | ((with_reducible refine gate_s (t := 26) (p := 11) rfl ?_); refine ag_store aT26 gb1836 0 #[.int .i64 0, .int .i64 0, .int .i64 0] #[.int .i64 t1833, .int .i64 t1834, .int .i64 t1835] #[.int .i64 t1833, .int .i64 t1834, .int .i64 t1835] BKb1836.out rfl (by simp) (by intro v_ hv_; simp at hv_; rcases hv_ with rfl | rfl | rfl <;> first | rfl) rfl rfl _ _ rfl rfl rfl ?_; intro w1900 ho_ hB_; replace BKb1823 := hid (BKb1823.out.off ho_ NBb1823_b1836.out); replace BKb1824 := hid (BKb1824.out.off ho_ NBb1824_b1836.out); replace BKb1830 := hid (BKb1830.out.off ho_ NBb1830_b1836.out); replace BKb1832 := hid (BKb1832.out.off ho_ NBb1832_b1836.out); replace SWt1825 := hid (SWt1825.out.off ho_ BKb1836.out (by decide)); replace HL := hid (ho_.below HL.out GEb1836.out); replace BKb1836 := hid hB_; clear ho_ hB_)
                  | ((with_reducible refine gate_d (N := 40) rfl ?_); refine ag_fix (.pointer (some ⟨gb1836, 2, none⟩)) (ex_field 26 2 (.pointer (some ⟨gb1836, 0, none⟩)) (.pointer (some ⟨gb1836, 2, none⟩)) (fa26_2_0 gb1836) _ rfl rfl) rfl ?_)
                  | ((with_reducible refine gate_d (N := 41) rfl ?_); refine ag_fix (.int .i64 t1835) (ex_get sT24 gb1836 (2) (.int .i64 t1835) (#[.int .i64 t1833, .int .i64 t1834, .int .i64 t1835]) BKb1836.out rfl _ rfl rfl) rfl ?_)
                  | ((with_reducible refine gate_d (N := 45) rfl ?_); refine ag_fix (.pointer (some ⟨gb1836, 1, none⟩)) (ex_field 26 1 (.pointer (some ⟨gb1836, 0, none⟩)) (.pointer (some ⟨gb1836, 1, none⟩)) (fa26_1_0 gb1836) _ rfl rfl) rfl ?_)
                  | ((with_reducible refine gate_d (N := 46) rfl ?_); refine ag_fix (.int .i64 t1834) (ex_get sT3 gb1836 (1) (.int .i64 t1834) (#[.int .i64 t1833, .int .i64 t1834, .int .i64 t1835]) BKb1836.out rfl _ rfl rfl) rfl ?_)
                  | ((with_reducible refine gate_d (N := 47) rfl ?_); refine ag_fix (.pointer (some ⟨gb1832, 2, none⟩)) (ex_field 43 2 (.pointer (some ⟨gb1832, 0, none⟩)) (.pointer (some ⟨gb1832, 2, none⟩)) (fa43_2_0 gb1832) _ rfl rfl) rfl ?_)
                  | ((with_reducible refine gate_s (t := 3) (p := 47) rfl ?_); refine ag_set sT3 gb1832 (2) (.int .i64 t1834) #[.int .i64 ((nt t1826 t1828.toNat (0, 0, 0, false)).1), .int .i64 ((nt t1826 t1828.toNat (0, 0, 0, false)).2.1), .int .i64 ((nt t1826 t1828.toNat (0, 0, 0, false)).2.2.1), .bool ((nt t1826 t1828.toNat (0, 0, 0, false)).2.2.2)] #[.int .i64 ((nt t1826 t1828.toNat (0, 0, 0, false)).1), .int .i64 ((nt t1826 t1828.toNat (0, 0, 0, false)).2.1), .int .i64 t1834, .bool ((nt t1826 t1828.toNat (0, 0, 0, false)).2.2.2)] BKb1832.out (by simp) rfl rfl rfl rfl _ _ rfl rfl rfl ?_; intro w1901 ho_ hB_; replace BKb1823 := hid (BKb1823.out.off ho_ NBb1823_b1832.out); replace BKb1824 := hid (BKb1824.out.off ho_ NBb1824_b1832.out); replace BKb1830 := hid (BKb1830.out.off ho_ NBb1830_b1832.out); replace BKb1836 := hid (BKb1836.out.off ho_ NBb1836_b1832.out); replace SWt1825 := hid (SWt1825.out.off ho_ BKb1832.out (by decide)); replace HL := hid (ho_.below HL.out GEb1832.out); replace BKb1832 := hid hB_; clear ho_ hB_)
                  | ((with_reducible refine gate_d (N := 48) rfl ?_); refine ag_fix (.pointer (some ⟨gb1832, 0, none⟩)) (ex_field 43 0 (.pointer (some ⟨gb1832, 0, none⟩)) (.pointer (some ⟨gb1832, 0, none⟩)) (fa43_0_0 gb1832) _ rfl rfl) rfl ?_)
                  | ((with_reducible refine gate_d (N := 49) rfl ?_); refine ag_fix (.int .i64 ((nt t1826 t1828.toNat (0, 0, 0, false)).1)) (ex_get sT3 gb1832 (0) (.int .i64 ((nt t1826 t1828.toNat (0, 0, 0, false)).1)) (#[.int .i64 ((nt t1826 t1828.toNat (0, 0, 0, false)).1), .int .i64 ((nt t1826 t1828.toNat (0, 0, 0, false)).2.1), .int .i64 t1834, .bool ((nt t1826 t1828.toNat (0, 0, 0, false)).2.2.2)]) BKb1832.out rfl _ rfl rfl) rfl ?_)
                  | ((with_reducible refine gate_d (N := 55) rfl ?_); refine ag_fix (.pointer (some ⟨gb1832, 2, none⟩)) (ex_field 43 2 (.pointer (some ⟨gb1832, 0, none⟩)) (.pointer (some ⟨gb1832, 2, none⟩)) (fa43_2_0 gb1832) _ rfl rfl) rfl ?_)
                  | ((with_reducible refine gate_d (N := 56) rfl ?_); refine ag_fix (.int .i64 t1834) (ex_get sT3 gb1832 (2) (.int .i64 t1834) (#[.int .i64 ((nt t1826 t1828.toNat (0, 0, 0, false)).1), .int .i64 ((nt t1826 t1828.toNat (0, 0, 0, false)).2.1), .int .i64 t1834, .bool ((nt t1826 t1828.toNat (0, 0, 0, false)).2.2.2)]) BKb1832.out rfl _ rfl rfl) rfl ?_)
                  | ((with_reducible refine gate_d (N := 59) rfl ?_); refine ag_fix (.pointer (some ⟨gb1836, 0, none⟩)) (ex_field 26 0 (.pointer (some ⟨gb1836, 0, none⟩)) (.pointer (some ⟨gb1836, 0, none⟩)) (fa26_0_0 gb1836) _ rfl rfl) rfl ?_)
                  | ((with_reducible refine gate_d (N := 60) rfl ?_); refine ag_fix (.int .i64 t1833) (ex_get sT3 gb1836 (0) (.int .i64 t1833) (#[.int .i64 t1833, .int .i64 t1834, .int .i64 t1835]) BKb1836.out rfl _ rfl rfl) rfl ?_)
                  | (go_at_call 10; clear k1902; refine (i_lex_Word.calls k a0 t1833 (⟨#[46, 53]⟩ : ByteArray) t1837 t1838 t1839 _ A1858.out).mono ?_; rintro e_ w1903 ⟨rfl, hb_⟩; replace BKb1823 := hid (BKb1823.out.below hb_ BKb1823.out.lt); replace BKb1824 := hid (BKb1824.out.below hb_ BKb1824.out.lt); replace BKb1830 := hid (BKb1830.out.below hb_ BKb1830.out.lt); replace BKb1832 := hid (BKb1832.out.below hb_ BKb1832.out.lt); replace BKb1836 := hid (BKb1836.out.below hb_ BKb1836.out.lt); replace SWt1825 := hid (SWt1825.out.below hb_); replace HL := hid (HL.out.trans (hb_.mono HL.out.size)); clear hb_)
                  | ((with_reducible refine gate_d (N := 12) rfl ?_); obtain ⟨gb1840, hgb1840⟩ : ∃ g_, w1903.heap.size = g_ := ⟨_, rfl⟩; refine ag_alloc aT26 gb1840 hgb1840 rfl rfl ?_; intro w1904 hb_ hB_ hs_; have GEb1840 : Hid (w.heap.size ≤ gb1840) := hid (by have := HL.out.size; omega); have NBb1823_b1840 : Hid (gb1823 ≠ gb1840) := hid (by have := BKb1823.out.lt; omega); have NBb1840_b1823 : Hid (gb1840 ≠ gb1823) := hid (by have := NBb1823_b1840.out; omega); replace BKb1823 := hid (BKb1823.out.below hb_ (by rw [← hgb1840]; exact BKb1823.out.lt)); have NBb1824_b1840 : Hid (gb1824 ≠ gb1840) := hid (by have := BKb1824.out.lt; omega); have NBb1840_b1824 : Hid (gb1840 ≠ gb1824) := hid (by have := NBb1824_b1840.out; omega); replace BKb1824 := hid (BKb1824.out.below hb_ (by rw [← hgb1840]; exact BKb1824.out.lt)); have NBb1830_b1840 : Hid (gb1830 ≠ gb1840) := hid (by have := BKb1830.out.lt; omega); have NBb1840_b1830 : Hid (gb1840 ≠ gb1830) := hid (by have := NBb1830_b1840.out; omega); replace BKb1830 := hid (BKb1830.out.below hb_ (by rw [← hgb1840]; exact BKb1830.out.lt)); have NBb1832_b1840 : Hid (gb1832 ≠ gb1840) := hid (by have := BKb1832.out.lt; omega); have NBb1840_b1832 : Hid (gb1840 ≠ gb1832) := hid (by have := NBb1832_b1840.out; omega); replace BKb1832 := hid (BKb1832.out.below hb_ (by rw [← hgb1840]; exact BKb1832.out.lt)); have NBb1836_b1840 : Hid (gb1836 ≠ gb1840) := hid (by have := BKb1836.out.lt; omega); have NBb1840_b1836 : Hid (gb1840 ≠ gb1836) := hid (by have := NBb1836_b1840.out; omega); replace BKb1836 := hid (BKb1836.out.below hb_ (by rw [← hgb1840]; exact BKb1836.out.lt)); replace SWt1825 := hid (SWt1825.out.below (by rw [hgb1840]; exact hb_)); replace HL := hid (HL.out.trans (hb_.mono GEb1840.out)); have BKb1840 := hid hB_; clear hb_ hB_ hs_ hgb1840)
                  | ((with_reducible refine gate_s (t := 26) (p := 12) rfl ?_); refine ag_store aT26 gb1840 0 #[.int .i64 0, .int .i64 0, .int .i64 0] #[.int .i64 t1837, .int .i64 t1838, .int .i64 t1839] #[.int .i64 t1837, .int .i64 t1838, .int .i64 t1839] BKb1840.out rfl (by simp) (by intro v_ hv_; simp at hv_; rcases hv_ with rfl | rfl | rfl <;> first | rfl) rfl rfl _ _ rfl rfl rfl ?_; intro w1905 ho_ hB_; replace BKb1823 := hid (BKb1823.out.off ho_ NBb1823_b1840.out); replace BKb1824 := hid (BKb1824.out.off ho_ NBb1824_b1840.out); replace BKb1830 := hid (BKb1830.out.off ho_ NBb1830_b1840.out); replace BKb1832 := hid (BKb1832.out.off ho_ NBb1832_b1840.out); replace BKb1836 := hid (BKb1836.out.off ho_ NBb1836_b1840.out); replace SWt1825 := hid (SWt1825.out.off ho_ BKb1840.out (by decide)); replace HL := hid (ho_.below HL.out GEb1840.out); replace BKb1840 := hid hB_; clear ho_ hB_)
                  | ((with_reducible refine gate_d (N := 62) rfl ?_); refine ag_fix (.pointer (some ⟨gb1840, 2, none⟩)) (ex_field 26 2 (.pointer (some ⟨gb1840, 0, none⟩)) (.pointer (some ⟨gb1840, 2, none⟩)) (fa26_2_0 gb1840) _ rfl rfl) rfl ?_)
                  | ((with_reducible refine gate_d (N := 63) rfl ?_); refine ag_fix (.int .i64 t1839) (ex_get sT24 gb1840 (2) (.int .i64 t1839) (#[.int .i64 t1837, .int .i64 t1838, .int .i64 t1839]) BKb1840.out rfl _ rfl rfl) rfl ?_))
                (try simp only [Act.put, List.setIfInBounds_toArray, List.set_cons_zero, List.set_cons_succ])
                have WR64 := i64_w
                have WR32 := i32_w
                refine sq_region (fun w'_ => Below w.heap.size w w'_ ∧ Blk w'_ gb1830 26 #[.int .i64 t1827, .int .i64 t1828, .int .i64 t1829] ∧ Blk w'_ gb1832 43 #[.int .i64 ((nt t1826 t1828.toNat (0, 0, 0, false)).1), .int .i64 ((nt t1826 t1828.toNat (0, 0, 0, false)).2.1), .int .i64 t1834, .bool ((nt t1826 t1828.toNat (0, 0, 0, false)).2.2.2)] ∧ Blk w'_ gb1836 26 #[.int .i64 t1833, .int .i64 t1834, .int .i64 t1835] ∧ Blk w'_ gb1840 26 #[.int .i64 t1837, .int .i64 t1838, .int .i64 t1839] ∧ Own w'_ w.heap.size 9 (ut1825) (t1825.map Value.string) ∧ True) [3] [(0, true), (1, true), (2, false), (3, false)] (by kernel_rfl) (by kernel_rfl) (by kernel_rfl) rfl ?_
                intro w1906 hb_
                replace BKb1823 := hid (BKb1823.out.below hb_ BKb1823.out.lt)
                replace BKb1824 := hid (BKb1824.out.below hb_ BKb1824.out.lt)
                replace BKb1830 := hid (BKb1830.out.below hb_ BKb1830.out.lt)
                replace BKb1832 := hid (BKb1832.out.below hb_ BKb1832.out.lt)
                replace BKb1836 := hid (BKb1836.out.below hb_ BKb1836.out.lt)
                replace BKb1840 := hid (BKb1840.out.below hb_ BKb1840.out.lt)
                replace SWt1825 := hid (SWt1825.out.below hb_)
                replace HL := hid (HL.out.trans (hb_.mono HL.out.size))
                clear hb_
                refine sq_take (.agg #[.int .i64 0, .int .i64 0, .int .i64 0, .bool false]) ⟨HL.out, BKb1830.out, BKb1832.out, BKb1836.out, BKb1840.out, SWt1825.out, trivial⟩ rfl (fun w'_ hS_ => ex_build (.agg #[.int .i64 0, .int .i64 0, .int .i64 0, .bool false]) _ rfl (by intro ww_; kernel_rfl)) rfl rfl ?_
                intro ts_ ht_; simp only [List.setIfInBounds_toArray, List.set_cons_zero, List.set_cons_succ] at ht_; subst ht_
                refine sq_take (.agg #[.int .i64 t1837, .int .i64 t1838, .int .i64 t1839]) ⟨HL.out, BKb1830.out, BKb1832.out, BKb1836.out, BKb1840.out, SWt1825.out, trivial⟩ rfl (fun w'_ hS_ => ex_load aT26 gb1840 0 #[.int .i64 t1837, .int .i64 t1838, .int .i64 t1839] #[.int .i64 t1837, .int .i64 t1838, .int .i64 t1839] hS_.2.2.2.2.1 (by simp) rfl _ rfl rfl) rfl rfl ?_
                intro ts_ ht_; simp only [List.setIfInBounds_toArray, List.set_cons_zero, List.set_cons_succ] at ht_; subst ht_
                refine sq_act rfl (fun Q'_ hQ_ => ?_)
                (with_reducible refine gate_s (t := 43) (p := 4) rfl ?_)
                refine ag_store aT43 gb1823 0 #[.int .i64 0, .int .i64 0, .int .i64 0, .bool false] #[.int .i64 0, .int .i64 0, .int .i64 0, .bool false] #[.int .i64 0, .int .i64 0, .int .i64 0, .bool false] BKb1823.out rfl (by simp) (by intro v_ hv_; simp at hv_; rcases hv_ with rfl | rfl | rfl | rfl <;> first | rfl) rfl rfl _ _ rfl rfl rfl ?_
                intro w1907 ho_ hB_
                replace BKb1824 := hid (BKb1824.out.off ho_ NBb1824_b1823.out)
                replace BKb1830 := hid (BKb1830.out.off ho_ NBb1830_b1823.out)
                replace BKb1832 := hid (BKb1832.out.off ho_ NBb1832_b1823.out)
                replace BKb1836 := hid (BKb1836.out.off ho_ NBb1836_b1823.out)
                replace BKb1840 := hid (BKb1840.out.off ho_ NBb1840_b1823.out)
                replace SWt1825 := hid (SWt1825.out.off ho_ BKb1823.out (by decide))
                replace HL := hid (ho_.below HL.out GEb1823.out)
                replace BKb1823 := hid hB_
                clear ho_ hB_
                refine act_end ?_
                refine hQ_ _ _ (fun _ => ⟨HL.out, BKb1830.out, BKb1832.out, BKb1836.out, BKb1840.out, SWt1825.out, trivial⟩) ?_
                clear hQ_ Q'_
                simp only [Act.put]
                refine sq_act rfl (fun Q'_ hQ_ => ?_)
                (with_reducible refine gate_s (t := 26) (p := 5) rfl ?_)
                refine ag_store aT26 gb1824 0 #[.int .i64 0, .int .i64 0, .int .i64 0] #[.int .i64 t1837, .int .i64 t1838, .int .i64 t1839] #[.int .i64 t1837, .int .i64 t1838, .int .i64 t1839] BKb1824.out rfl (by simp) (by intro v_ hv_; simp at hv_; rcases hv_ with rfl | rfl | rfl <;> first | rfl) rfl rfl _ _ rfl rfl rfl ?_
                intro w1908 ho_ hB_
                replace BKb1823 := hid (BKb1823.out.off ho_ NBb1823_b1824.out)
                replace BKb1830 := hid (BKb1830.out.off ho_ NBb1830_b1824.out)
                replace BKb1832 := hid (BKb1832.out.off ho_ NBb1832_b1824.out)
                replace BKb1836 := hid (BKb1836.out.off ho_ NBb1836_b1824.out)
                replace BKb1840 := hid (BKb1840.out.off ho_ NBb1840_b1824.out)
                replace SWt1825 := hid (SWt1825.out.off ho_ BKb1824.out (by decide))
                replace HL := hid (ho_.below HL.out GEb1824.out)
                replace BKb1824 := hid hB_
                clear ho_ hB_
                refine act_end ?_
                refine hQ_ _ _ (fun h_ => absurd h_ (by decide)) ?_
                clear hQ_ Q'_
                simp only [Act.put]
                refine sq_end ?_
                clear WR64 WR32
                go_wp2_with fail
                (try simp only [Act.put, List.setIfInBounds_toArray, List.set_cons_zero, List.set_cons_succ])
                refine bodyPost_ret (v := .tuple #[.agg #[.int .i64 0, .int .i64 0, .int .i64 0, .bool false], .agg #[.int .i64 t1837, .int .i64 t1838, .int .i64 t1839]]) (res_cc aT43 aT26 rfl _ gb1823 gb1824 #[.int .i64 0, .int .i64 0, .int .i64 0, .bool false] #[.int .i64 t1837, .int .i64 t1838, .int .i64 t1839] BKb1823.out rfl rfl BKb1824.out rfl rfl) rfl ?_
                exact ⟨by first | rfl | (simp; done) | (simp [*]; done), HL.out⟩
            · rw [if_neg c1857] at H
              have c1857b0 : (t1834 == 0) = false := beq_eq_false_iff_ne.mpr c1857
              have c1857b1 : (t1834 != 0) = true := bne_iff_ne.mpr c1857
              have hc1857 := hid c1857
              clear c1857
              replace H := Option.bind_eq_some_iff.mp H
              obtain ⟨⟨t1841, t1842, t1843⟩, A1909_, H⟩ := H
              replace H : (if t1843 = 0 then (some ((nt t1826 t1828.toNat (0, 0, 0, false)).1, (nt t1826 t1828.toNat (0, 0, 0, false)).2.1, t1834, (t1842 == 1), t1841, 0, 0)) else (some (0, 0, 0, false, t1841, 0, t1843))) = some (r1, r2, r3, r4, r5, r6, r7) := H
              have A1909 := hid A1909_
              clear A1909_
              by_cases c1910 : t1843 = 0
              · rw [if_pos c1910] at H
                have c1910b0 : (t1843 == 0) = true := beq_iff_eq.mpr c1910
                have c1910b1 : (t1843 != 0) = false := bne_eq_false_iff_eq.mpr c1910
                have hc1910 := hid c1910
                clear c1910
                simp only [Option.some.injEq, Prod.mk.injEq] at H
                obtain ⟨rfl, rfl, rfl, rfl, rfl, rfl, rfl⟩ := H
                go_enter Try.func36, Try.ntmps36
                have k1913 := True.intro
                have k1915 := True.intro
                have k1923 := True.intro
                have k1928 := True.intro
                go_wp2_with (first
                  | ((with_reducible refine gate_d (N := 4) rfl ?_); obtain ⟨gb1823, hgb1823⟩ : ∃ g_, w.heap.size = g_ := ⟨_, rfl⟩; refine ag_alloc aT43 gb1823 hgb1823 rfl rfl ?_; intro w1911 hb_ hB_ hs_; have GEb1823 : Hid (w.heap.size ≤ gb1823) := hid (by have := HL.out.size; omega); replace HL := hid (HL.out.trans (hb_.mono GEb1823.out)); have BKb1823 := hid hB_; clear hb_ hB_ hs_ hgb1823)
                  | ((with_reducible refine gate_d (N := 5) rfl ?_); obtain ⟨gb1824, hgb1824⟩ : ∃ g_, w1911.heap.size = g_ := ⟨_, rfl⟩; refine ag_alloc aT26 gb1824 hgb1824 rfl rfl ?_; intro w1912 hb_ hB_ hs_; have GEb1824 : Hid (w.heap.size ≤ gb1824) := hid (by have := HL.out.size; omega); have NBb1823_b1824 : Hid (gb1823 ≠ gb1824) := hid (by have := BKb1823.out.lt; omega); have NBb1824_b1823 : Hid (gb1824 ≠ gb1823) := hid (by have := NBb1823_b1824.out; omega); replace BKb1823 := hid (BKb1823.out.below hb_ (by rw [← hgb1824]; exact BKb1823.out.lt)); replace HL := hid (HL.out.trans (hb_.mono GEb1824.out)); have BKb1824 := hid hB_; clear hb_ hB_ hs_ hgb1824)
                  | (go_at_call 48; clear k1913; refine (i_stip_words.calls k t1825 t1826 _ A1849.out).mono ?_; rintro e_ w1914 ⟨ut1825, ut1826, rfl, so_t1825, so_t1826, hb_⟩; replace so_t1825 := so_t1825.mono HL.out.size; replace so_t1826 := so_t1826.mono HL.out.size; have SWn_t1825 := hid so_t1825; clear so_t1825; have SWn_t1826 := hid so_t1826; clear so_t1826; replace BKb1823 := hid (BKb1823.out.below hb_ BKb1823.out.lt); replace BKb1824 := hid (BKb1824.out.below hb_ BKb1824.out.lt); replace HL := hid (HL.out.trans (hb_.mono HL.out.size)); clear hb_; have SWt1825 := SWn_t1825; clear SWn_t1825; have SWt1826 := SWn_t1826; clear SWn_t1826)
                  | (go_at_call 12; clear k1915; refine (i_lex_OneOf.calls k a0 a1 (ut1825) t1825 t1827 t1828 t1829 _ SWt1825.out.sl A1850.out).mono ?_; rintro e_ w1916 ⟨rfl, hb_⟩; replace BKb1823 := hid (BKb1823.out.below hb_ BKb1823.out.lt); replace BKb1824 := hid (BKb1824.out.below hb_ BKb1824.out.lt); replace SWt1825 := hid (SWt1825.out.below hb_); replace SWt1826 := hid (SWt1826.out.below hb_); replace HL := hid (HL.out.trans (hb_.mono HL.out.size)); clear hb_)
                  | ((with_reducible refine gate_d (N := 8) rfl ?_); obtain ⟨gb1830, hgb1830⟩ : ∃ g_, w1916.heap.size = g_ := ⟨_, rfl⟩; refine ag_alloc aT26 gb1830 hgb1830 rfl rfl ?_; intro w1917 hb_ hB_ hs_; have GEb1830 : Hid (w.heap.size ≤ gb1830) := hid (by have := HL.out.size; omega); have NBb1823_b1830 : Hid (gb1823 ≠ gb1830) := hid (by have := BKb1823.out.lt; omega); have NBb1830_b1823 : Hid (gb1830 ≠ gb1823) := hid (by have := NBb1823_b1830.out; omega); replace BKb1823 := hid (BKb1823.out.below hb_ (by rw [← hgb1830]; exact BKb1823.out.lt)); have NBb1824_b1830 : Hid (gb1824 ≠ gb1830) := hid (by have := BKb1824.out.lt; omega); have NBb1830_b1824 : Hid (gb1830 ≠ gb1824) := hid (by have := NBb1824_b1830.out; omega); replace BKb1824 := hid (BKb1824.out.below hb_ (by rw [← hgb1830]; exact BKb1824.out.lt)); replace SWt1825 := hid (SWt1825.out.below (by rw [hgb1830]; exact hb_)); replace SWt1826 := hid (SWt1826.out.below (by rw [hgb1830]; exact hb_)); replace HL := hid (HL.out.trans (hb_.mono GEb1830.out)); have BKb1830 := hid hB_; clear hb_ hB_ hs_ hgb1830)
                  | ((with_reducible refine gate_s (t := 26) (p := 8) rfl ?_); refine ag_store aT26 gb1830 0 #[.int .i64 0, .int .i64 0, .int .i64 0] #[.int .i64 t1827, .int .i64 t1828, .int .i64 t1829] #[.int .i64 t1827, .int .i64 t1828, .int .i64 t1829] BKb1830.out rfl (by simp) (by intro v_ hv_; simp at hv_; rcases hv_ with rfl | rfl | rfl <;> first | rfl) rfl rfl _ _ rfl rfl rfl ?_; intro w1918 ho_ hB_; replace BKb1823 := hid (BKb1823.out.off ho_ NBb1823_b1830.out); replace BKb1824 := hid (BKb1824.out.off ho_ NBb1824_b1830.out); replace SWt1825 := hid (SWt1825.out.off ho_ BKb1830.out (by decide)); replace SWt1826 := hid (SWt1826.out.off ho_ BKb1830.out (by decide)); replace HL := hid (ho_.below HL.out GEb1830.out); replace BKb1830 := hid hB_; clear ho_ hB_)
                  | ((with_reducible refine gate_d (N := 22) rfl ?_); refine ag_fix (.pointer (some ⟨gb1830, 2, none⟩)) (ex_field 26 2 (.pointer (some ⟨gb1830, 0, none⟩)) (.pointer (some ⟨gb1830, 2, none⟩)) (fa26_2_0 gb1830) _ rfl rfl) rfl ?_)
                  | ((with_reducible refine gate_d (N := 23) rfl ?_); refine ag_fix (.int .i64 t1829) (ex_get sT24 gb1830 (2) (.int .i64 t1829) (#[.int .i64 t1827, .int .i64 t1828, .int .i64 t1829]) BKb1830.out rfl _ rfl rfl) rfl ?_)
                  | ((with_reducible refine gate_d (N := 28) rfl ?_); refine ag_fix (.pointer (some ⟨gb1830, 1, none⟩)) (ex_field 26 1 (.pointer (some ⟨gb1830, 0, none⟩)) (.pointer (some ⟨gb1830, 1, none⟩)) (fa26_1_0 gb1830) _ rfl rfl) rfl ?_)
                  | ((with_reducible refine gate_d (N := 29) rfl ?_); refine ag_fix (.int .i64 t1828) (ex_get sT3 gb1830 (1) (.int .i64 t1828) (#[.int .i64 t1827, .int .i64 t1828, .int .i64 t1829]) BKb1830.out rfl _ rfl rfl) rfl ?_)
                  | ((with_reducible refine gate_d (N := 30) rfl ?_); obtain ⟨ad1831, c1919, hv1920, HCad1831_⟩ := SlN.get (l := t1826) (f := en43) en43_len SWt1826.out.sl (0, 0, 0, false) (i := t1828) hc1852.out hc1853.out; have HCad1831 := hid HCad1831_; clear HCad1831_; refine ag_fix (.pointer (some (ad1831.add (t1828.toNat * 4)))) (ex_satN _ _ t1828 _ _ hv1920 hc1852.out hc1853.out us74 aT43.size _ _ rfl rfl rfl) rfl ?_; clear hv1920)
                  | ((with_reducible refine gate_d (N := 31) rfl ?_); refine ag_fix (.agg #[.int .i64 ((nt t1826 t1828.toNat (0, 0, 0, false)).1), .int .i64 ((nt t1826 t1828.toNat (0, 0, 0, false)).2.1), .int .i64 ((nt t1826 t1828.toNat (0, 0, 0, false)).2.2.1), .bool ((nt t1826 t1828.toNat (0, 0, 0, false)).2.2.2)]) (ex_ldN aT43 _ (en43 (nt t1826 t1828.toNat (0, 0, 0, false))) rfl HCad1831.out _ rfl rfl) rfl ?_)
                  | ((with_reducible refine gate_d (N := 9) rfl ?_); obtain ⟨gb1832, hgb1832⟩ : ∃ g_, w1918.heap.size = g_ := ⟨_, rfl⟩; refine ag_alloc aT43 gb1832 hgb1832 rfl rfl ?_; intro w1921 hb_ hB_ hs_; have GEb1832 : Hid (w.heap.size ≤ gb1832) := hid (by have := HL.out.size; omega); have NBb1823_b1832 : Hid (gb1823 ≠ gb1832) := hid (by have := BKb1823.out.lt; omega); have NBb1832_b1823 : Hid (gb1832 ≠ gb1823) := hid (by have := NBb1823_b1832.out; omega); replace BKb1823 := hid (BKb1823.out.below hb_ (by rw [← hgb1832]; exact BKb1823.out.lt)); have NBb1824_b1832 : Hid (gb1824 ≠ gb1832) := hid (by have := BKb1824.out.lt; omega); have NBb1832_b1824 : Hid (gb1832 ≠ gb1824) := hid (by have := NBb1824_b1832.out; omega); replace BKb1824 := hid (BKb1824.out.below hb_ (by rw [← hgb1832]; exact BKb1824.out.lt)); have NBb1830_b1832 : Hid (gb1830 ≠ gb1832) := hid (by have := BKb1830.out.lt; omega); have NBb1832_b1830 : Hid (gb1832 ≠ gb1830) := hid (by have := NBb1830_b1832.out; omega); replace BKb1830 := hid (BKb1830.out.below hb_ (by rw [← hgb1832]; exact BKb1830.out.lt)); replace SWt1825 := hid (SWt1825.out.below (by rw [hgb1832]; exact hb_)); replace SWt1826 := hid (SWt1826.out.below (by rw [hgb1832]; exact hb_)); replace HL := hid (HL.out.trans (hb_.mono GEb1832.out)); have BKb1832 := hid hB_; clear hb_ hB_ hs_ hgb1832)
                  | ((with_reducible refine gate_s (t := 43) (p := 9) rfl ?_); refine ag_store aT43 gb1832 0 #[.int .i64 0, .int .i64 0, .int .i64 0, .bool false] #[.int .i64 ((nt t1826 t1828.toNat (0, 0, 0, false)).1), .int .i64 ((nt t1826 t1828.toNat (0, 0, 0, false)).2.1), .int .i64 ((nt t1826 t1828.toNat (0, 0, 0, false)).2.2.1), .bool ((nt t1826 t1828.toNat (0, 0, 0, false)).2.2.2)] #[.int .i64 ((nt t1826 t1828.toNat (0, 0, 0, false)).1), .int .i64 ((nt t1826 t1828.toNat (0, 0, 0, false)).2.1), .int .i64 ((nt t1826 t1828.toNat (0, 0, 0, false)).2.2.1), .bool ((nt t1826 t1828.toNat (0, 0, 0, false)).2.2.2)] BKb1832.out rfl (by simp) (by intro v_ hv_; simp at hv_; rcases hv_ with rfl | rfl | rfl | rfl <;> first | rfl) rfl rfl _ _ rfl rfl rfl ?_; intro w1922 ho_ hB_; replace BKb1823 := hid (BKb1823.out.off ho_ NBb1823_b1832.out); replace BKb1824 := hid (BKb1824.out.off ho_ NBb1824_b1832.out); replace BKb1830 := hid (BKb1830.out.off ho_ NBb1830_b1832.out); clear SWt1826; replace SWt1825 := hid (SWt1825.out.off ho_ BKb1832.out (by decide)); replace HL := hid (ho_.below HL.out GEb1832.out); replace BKb1832 := hid hB_; clear ho_ hB_)
                  | ((with_reducible refine gate_d (N := 32) rfl ?_); refine ag_fix (.pointer (some ⟨gb1832, 0, none⟩)) (ex_field 43 0 (.pointer (some ⟨gb1832, 0, none⟩)) (.pointer (some ⟨gb1832, 0, none⟩)) (fa43_0_0 gb1832) _ rfl rfl) rfl ?_)
                  | ((with_reducible refine gate_d (N := 33) rfl ?_); refine ag_fix (.int .i64 ((nt t1826 t1828.toNat (0, 0, 0, false)).1)) (ex_get sT3 gb1832 (0) (.int .i64 ((nt t1826 t1828.toNat (0, 0, 0, false)).1)) (#[.int .i64 ((nt t1826 t1828.toNat (0, 0, 0, false)).1), .int .i64 ((nt t1826 t1828.toNat (0, 0, 0, false)).2.1), .int .i64 ((nt t1826 t1828.toNat (0, 0, 0, false)).2.2.1), .bool ((nt t1826 t1828.toNat (0, 0, 0, false)).2.2.2)]) BKb1832.out rfl _ rfl rfl) rfl ?_)
                  | ((with_reducible refine gate_d (N := 36) rfl ?_); refine ag_fix (.pointer (some ⟨gb1830, 0, none⟩)) (ex_field 26 0 (.pointer (some ⟨gb1830, 0, none⟩)) (.pointer (some ⟨gb1830, 0, none⟩)) (fa26_0_0 gb1830) _ rfl rfl) rfl ?_)
                  | ((with_reducible refine gate_d (N := 37) rfl ?_); refine ag_fix (.int .i64 t1827) (ex_get sT3 gb1830 (0) (.int .i64 t1827) (#[.int .i64 t1827, .int .i64 t1828, .int .i64 t1829]) BKb1830.out rfl _ rfl rfl) rfl ?_)
                  | (go_at_call 14; clear k1923; refine (i_lex_Number.calls k a0 t1827 0 64 t1833 t1834 t1835 _ A1855.out).mono ?_; rintro e_ w1924 ⟨rfl, hb_⟩; replace BKb1823 := hid (BKb1823.out.below hb_ BKb1823.out.lt); replace BKb1824 := hid (BKb1824.out.below hb_ BKb1824.out.lt); replace BKb1830 := hid (BKb1830.out.below hb_ BKb1830.out.lt); replace BKb1832 := hid (BKb1832.out.below hb_ BKb1832.out.lt); replace SWt1825 := hid (SWt1825.out.below hb_); replace HL := hid (HL.out.trans (hb_.mono HL.out.size)); clear hb_)
                  | ((with_reducible refine gate_d (N := 11) rfl ?_); obtain ⟨gb1836, hgb1836⟩ : ∃ g_, w1924.heap.size = g_ := ⟨_, rfl⟩; refine ag_alloc aT26 gb1836 hgb1836 rfl rfl ?_; intro w1925 hb_ hB_ hs_; have GEb1836 : Hid (w.heap.size ≤ gb1836) := hid (by have := HL.out.size; omega); have NBb1823_b1836 : Hid (gb1823 ≠ gb1836) := hid (by have := BKb1823.out.lt; omega); have NBb1836_b1823 : Hid (gb1836 ≠ gb1823) := hid (by have := NBb1823_b1836.out; omega); replace BKb1823 := hid (BKb1823.out.below hb_ (by rw [← hgb1836]; exact BKb1823.out.lt)); have NBb1824_b1836 : Hid (gb1824 ≠ gb1836) := hid (by have := BKb1824.out.lt; omega); have NBb1836_b1824 : Hid (gb1836 ≠ gb1824) := hid (by have := NBb1824_b1836.out; omega); replace BKb1824 := hid (BKb1824.out.below hb_ (by rw [← hgb1836]; exact BKb1824.out.lt)); have NBb1830_b1836 : Hid (gb1830 ≠ gb1836) := hid (by have := BKb1830.out.lt; omega); have NBb1836_b1830 : Hid (gb1836 ≠ gb1830) := hid (by have := NBb1830_b1836.out; omega); replace BKb1830 := hid (BKb1830.out.below hb_ (by rw [← hgb1836]; exact BKb1830.out.lt)); have NBb1832_b1836 : Hid (gb1832 ≠ gb1836) := hid (by have := BKb1832.out.lt; omega); have NBb1836_b1832 : Hid (gb1836 ≠ gb1832) := hid (by have := NBb1832_b1836.out; omega); replace BKb1832 := hid (BKb1832.out.below hb_ (by rw [← hgb1836]; exact BKb1832.out.lt)); replace SWt1825 := hid (SWt1825.out.below (by rw [hgb1836]; exact hb_)); replace HL := hid (HL.out.trans (hb_.mono GEb1836.out)); have BKb1836 := hid hB_; clear hb_ hB_ hs_ hgb1836)
                  | ((with_reducible refine gate_s (t := 26) (p := 11) rfl ?_); refine ag_store aT26 gb1836 0 #[.int .i64 0, .int .i64 0, .int .i64 0] #[.int .i64 t1833, .int .i64 t1834, .int .i64 t1835] #[.int .i64 t1833, .int .i64 t1834, .int .i64 t1835] BKb1836.out rfl (by simp) (by intro v_ hv_; simp at hv_; rcases hv_ with rfl | rfl | rfl <;> first | rfl) rfl rfl _ _ rfl rfl rfl ?_; intro w1926 ho_ hB_; replace BKb1823 := hid (BKb1823.out.off ho_ NBb1823_b1836.out); replace BKb1824 := hid (BKb1824.out.off ho_ NBb1824_b1836.out); replace BKb1830 := hid (BKb1830.out.off ho_ NBb1830_b1836.out); replace BKb1832 := hid (BKb1832.out.off ho_ NBb1832_b1836.out); replace SWt1825 := hid (SWt1825.out.off ho_ BKb1836.out (by decide)); replace HL := hid (ho_.below HL.out GEb1836.out); replace BKb1836 := hid hB_; clear ho_ hB_)
                  | ((with_reducible refine gate_d (N := 40) rfl ?_); refine ag_fix (.pointer (some ⟨gb1836, 2, none⟩)) (ex_field 26 2 (.pointer (some ⟨gb1836, 0, none⟩)) (.pointer (some ⟨gb1836, 2, none⟩)) (fa26_2_0 gb1836) _ rfl rfl) rfl ?_)
                  | ((with_reducible refine gate_d (N := 41) rfl ?_); refine ag_fix (.int .i64 t1835) (ex_get sT24 gb1836 (2) (.int .i64 t1835) (#[.int .i64 t1833, .int .i64 t1834, .int .i64 t1835]) BKb1836.out rfl _ rfl rfl) rfl ?_)
                  | ((with_reducible refine gate_d (N := 45) rfl ?_); refine ag_fix (.pointer (some ⟨gb1836, 1, none⟩)) (ex_field 26 1 (.pointer (some ⟨gb1836, 0, none⟩)) (.pointer (some ⟨gb1836, 1, none⟩)) (fa26_1_0 gb1836) _ rfl rfl) rfl ?_)
                  | ((with_reducible refine gate_d (N := 46) rfl ?_); refine ag_fix (.int .i64 t1834) (ex_get sT3 gb1836 (1) (.int .i64 t1834) (#[.int .i64 t1833, .int .i64 t1834, .int .i64 t1835]) BKb1836.out rfl _ rfl rfl) rfl ?_)
                  | ((with_reducible refine gate_d (N := 47) rfl ?_); refine ag_fix (.pointer (some ⟨gb1832, 2, none⟩)) (ex_field 43 2 (.pointer (some ⟨gb1832, 0, none⟩)) (.pointer (some ⟨gb1832, 2, none⟩)) (fa43_2_0 gb1832) _ rfl rfl) rfl ?_)
                  | ((with_reducible refine gate_s (t := 3) (p := 47) rfl ?_); refine ag_set sT3 gb1832 (2) (.int .i64 t1834) #[.int .i64 ((nt t1826 t1828.toNat (0, 0, 0, false)).1), .int .i64 ((nt t1826 t1828.toNat (0, 0, 0, false)).2.1), .int .i64 ((nt t1826 t1828.toNat (0, 0, 0, false)).2.2.1), .bool ((nt t1826 t1828.toNat (0, 0, 0, false)).2.2.2)] #[.int .i64 ((nt t1826 t1828.toNat (0, 0, 0, false)).1), .int .i64 ((nt t1826 t1828.toNat (0, 0, 0, false)).2.1), .int .i64 t1834, .bool ((nt t1826 t1828.toNat (0, 0, 0, false)).2.2.2)] BKb1832.out (by simp) rfl rfl rfl rfl _ _ rfl rfl rfl ?_; intro w1927 ho_ hB_; replace BKb1823 := hid (BKb1823.out.off ho_ NBb1823_b1832.out); replace BKb1824 := hid (BKb1824.out.off ho_ NBb1824_b1832.out); replace BKb1830 := hid (BKb1830.out.off ho_ NBb1830_b1832.out); replace BKb1836 := hid (BKb1836.out.off ho_ NBb1836_b1832.out); replace SWt1825 := hid (SWt1825.out.off ho_ BKb1832.out (by decide)); replace HL := hid (ho_.below HL.out GEb1832.out); replace BKb1832 := hid hB_; clear ho_ hB_)
                  | ((with_reducible refine gate_d (N := 48) rfl ?_); refine ag_fix (.pointer (some ⟨gb1832, 0, none⟩)) (ex_field 43 0 (.pointer (some ⟨gb1832, 0, none⟩)) (.pointer (some ⟨gb1832, 0, none⟩)) (fa43_0_0 gb1832) _ rfl rfl) rfl ?_)
                  | ((with_reducible refine gate_d (N := 49) rfl ?_); refine ag_fix (.int .i64 ((nt t1826 t1828.toNat (0, 0, 0, false)).1)) (ex_get sT3 gb1832 (0) (.int .i64 ((nt t1826 t1828.toNat (0, 0, 0, false)).1)) (#[.int .i64 ((nt t1826 t1828.toNat (0, 0, 0, false)).1), .int .i64 ((nt t1826 t1828.toNat (0, 0, 0, false)).2.1), .int .i64 t1834, .bool ((nt t1826 t1828.toNat (0, 0, 0, false)).2.2.2)]) BKb1832.out rfl _ rfl rfl) rfl ?_)
                  | ((with_reducible refine gate_d (N := 55) rfl ?_); refine ag_fix (.pointer (some ⟨gb1832, 2, none⟩)) (ex_field 43 2 (.pointer (some ⟨gb1832, 0, none⟩)) (.pointer (some ⟨gb1832, 2, none⟩)) (fa43_2_0 gb1832) _ rfl rfl) rfl ?_)
                  | ((with_reducible refine gate_d (N := 56) rfl ?_); refine ag_fix (.int .i64 t1834) (ex_get sT3 gb1832 (2) (.int .i64 t1834) (#[.int .i64 ((nt t1826 t1828.toNat (0, 0, 0, false)).1), .int .i64 ((nt t1826 t1828.toNat (0, 0, 0, false)).2.1), .int .i64 t1834, .bool ((nt t1826 t1828.toNat (0, 0, 0, false)).2.2.2)]) BKb1832.out rfl _ rfl rfl) rfl ?_)
                  | ((with_reducible refine gate_d (N := 73) rfl ?_); refine ag_fix (.pointer (some ⟨gb1836, 0, none⟩)) (ex_field 26 0 (.pointer (some ⟨gb1836, 0, none⟩)) (.pointer (some ⟨gb1836, 0, none⟩)) (fa26_0_0 gb1836) _ rfl rfl) rfl ?_)
                  | ((with_reducible refine gate_d (N := 74) rfl ?_); refine ag_fix (.int .i64 t1833) (ex_get sT3 gb1836 (0) (.int .i64 t1833) (#[.int .i64 t1833, .int .i64 t1834, .int .i64 t1835]) BKb1836.out rfl _ rfl rfl) rfl ?_)
                  | (go_at_call 49; clear k1928; refine (i_stip_halved.calls k a0 t1833 t1841 t1842 t1843 _ A1909.out).mono ?_; rintro e_ w1929 ⟨rfl, hb_⟩; replace BKb1823 := hid (BKb1823.out.below hb_ BKb1823.out.lt); replace BKb1824 := hid (BKb1824.out.below hb_ BKb1824.out.lt); replace BKb1830 := hid (BKb1830.out.below hb_ BKb1830.out.lt); replace BKb1832 := hid (BKb1832.out.below hb_ BKb1832.out.lt); replace BKb1836 := hid (BKb1836.out.below hb_ BKb1836.out.lt); replace SWt1825 := hid (SWt1825.out.below hb_); replace HL := hid (HL.out.trans (hb_.mono HL.out.size)); clear hb_)
                  | ((with_reducible refine gate_d (N := 13) rfl ?_); obtain ⟨gb1844, hgb1844⟩ : ∃ g_, w1929.heap.size = g_ := ⟨_, rfl⟩; refine ag_alloc aT26 gb1844 hgb1844 rfl rfl ?_; intro w1930 hb_ hB_ hs_; have GEb1844 : Hid (w.heap.size ≤ gb1844) := hid (by have := HL.out.size; omega); have NBb1823_b1844 : Hid (gb1823 ≠ gb1844) := hid (by have := BKb1823.out.lt; omega); have NBb1844_b1823 : Hid (gb1844 ≠ gb1823) := hid (by have := NBb1823_b1844.out; omega); replace BKb1823 := hid (BKb1823.out.below hb_ (by rw [← hgb1844]; exact BKb1823.out.lt)); have NBb1824_b1844 : Hid (gb1824 ≠ gb1844) := hid (by have := BKb1824.out.lt; omega); have NBb1844_b1824 : Hid (gb1844 ≠ gb1824) := hid (by have := NBb1824_b1844.out; omega); replace BKb1824 := hid (BKb1824.out.below hb_ (by rw [← hgb1844]; exact BKb1824.out.lt)); have NBb1830_b1844 : Hid (gb1830 ≠ gb1844) := hid (by have := BKb1830.out.lt; omega); have NBb1844_b1830 : Hid (gb1844 ≠ gb1830) := hid (by have := NBb1830_b1844.out; omega); replace BKb1830 := hid (BKb1830.out.below hb_ (by rw [← hgb1844]; exact BKb1830.out.lt)); have NBb1832_b1844 : Hid (gb1832 ≠ gb1844) := hid (by have := BKb1832.out.lt; omega); have NBb1844_b1832 : Hid (gb1844 ≠ gb1832) := hid (by have := NBb1832_b1844.out; omega); replace BKb1832 := hid (BKb1832.out.below hb_ (by rw [← hgb1844]; exact BKb1832.out.lt)); have NBb1836_b1844 : Hid (gb1836 ≠ gb1844) := hid (by have := BKb1836.out.lt; omega); have NBb1844_b1836 : Hid (gb1844 ≠ gb1836) := hid (by have := NBb1836_b1844.out; omega); replace BKb1836 := hid (BKb1836.out.below hb_ (by rw [← hgb1844]; exact BKb1836.out.lt)); replace SWt1825 := hid (SWt1825.out.below (by rw [hgb1844]; exact hb_)); replace HL := hid (HL.out.trans (hb_.mono GEb1844.out)); have BKb1844 := hid hB_; clear hb_ hB_ hs_ hgb1844)
                  | ((with_reducible refine gate_s (t := 26) (p := 13) rfl ?_); refine ag_store aT26 gb1844 0 #[.int .i64 0, .int .i64 0, .int .i64 0] #[.int .i64 t1841, .int .i64 t1842, .int .i64 t1843] #[.int .i64 t1841, .int .i64 t1842, .int .i64 t1843] BKb1844.out rfl (by simp) (by intro v_ hv_; simp at hv_; rcases hv_ with rfl | rfl | rfl <;> first | rfl) rfl rfl _ _ rfl rfl rfl ?_; intro w1931 ho_ hB_; replace BKb1823 := hid (BKb1823.out.off ho_ NBb1823_b1844.out); replace BKb1824 := hid (BKb1824.out.off ho_ NBb1824_b1844.out); replace BKb1830 := hid (BKb1830.out.off ho_ NBb1830_b1844.out); replace BKb1832 := hid (BKb1832.out.off ho_ NBb1832_b1844.out); replace BKb1836 := hid (BKb1836.out.off ho_ NBb1836_b1844.out); replace SWt1825 := hid (SWt1825.out.off ho_ BKb1844.out (by decide)); replace HL := hid (ho_.below HL.out GEb1844.out); replace BKb1844 := hid hB_; clear ho_ hB_)
                  | ((with_reducible refine gate_d (N := 76) rfl ?_); refine ag_fix (.pointer (some ⟨gb1844, 2, none⟩)) (ex_field 26 2 (.pointer (some ⟨gb1844, 0, none⟩)) (.pointer (some ⟨gb1844, 2, none⟩)) (fa26_2_0 gb1844) _ rfl rfl) rfl ?_)
                  | ((with_reducible refine gate_d (N := 77) rfl ?_); refine ag_fix (.int .i64 t1843) (ex_get sT24 gb1844 (2) (.int .i64 t1843) (#[.int .i64 t1841, .int .i64 t1842, .int .i64 t1843]) BKb1844.out rfl _ rfl rfl) rfl ?_)
                  | ((with_reducible refine gate_d (N := 85) rfl ?_); refine ag_fix (.pointer (some ⟨gb1844, 1, none⟩)) (ex_field 26 1 (.pointer (some ⟨gb1844, 0, none⟩)) (.pointer (some ⟨gb1844, 1, none⟩)) (fa26_1_0 gb1844) _ rfl rfl) rfl ?_)
                  | ((with_reducible refine gate_d (N := 86) rfl ?_); refine ag_fix (.int .i64 t1842) (ex_get sT3 gb1844 (1) (.int .i64 t1842) (#[.int .i64 t1841, .int .i64 t1842, .int .i64 t1843]) BKb1844.out rfl _ rfl rfl) rfl ?_)
                  | ((with_reducible refine gate_d (N := 88) rfl ?_); refine ag_fix (.pointer (some ⟨gb1832, 3, none⟩)) (ex_field 43 3 (.pointer (some ⟨gb1832, 0, none⟩)) (.pointer (some ⟨gb1832, 3, none⟩)) (fa43_3_0 gb1832) _ rfl rfl) rfl ?_)
                  | ((with_reducible refine gate_s (t := 4) (p := 88) rfl ?_); refine ag_set sT4 gb1832 (3) (.bool (t1842 == 1)) #[.int .i64 ((nt t1826 t1828.toNat (0, 0, 0, false)).1), .int .i64 ((nt t1826 t1828.toNat (0, 0, 0, false)).2.1), .int .i64 t1834, .bool ((nt t1826 t1828.toNat (0, 0, 0, false)).2.2.2)] #[.int .i64 ((nt t1826 t1828.toNat (0, 0, 0, false)).1), .int .i64 ((nt t1826 t1828.toNat (0, 0, 0, false)).2.1), .int .i64 t1834, .bool (t1842 == 1)] BKb1832.out (by simp) rfl rfl rfl rfl _ _ rfl rfl rfl ?_; intro w1932 ho_ hB_; replace BKb1823 := hid (BKb1823.out.off ho_ NBb1823_b1832.out); replace BKb1824 := hid (BKb1824.out.off ho_ NBb1824_b1832.out); replace BKb1830 := hid (BKb1830.out.off ho_ NBb1830_b1832.out); replace BKb1836 := hid (BKb1836.out.off ho_ NBb1836_b1832.out); replace BKb1844 := hid (BKb1844.out.off ho_ NBb1844_b1832.out); replace SWt1825 := hid (SWt1825.out.off ho_ BKb1832.out (by decide)); replace HL := hid (ho_.below HL.out GEb1832.out); replace BKb1832 := hid hB_; clear ho_ hB_))
                (try simp only [Act.put, List.setIfInBounds_toArray, List.set_cons_zero, List.set_cons_succ])
                have WR64 := i64_w
                have WR32 := i32_w
                refine sq_region (fun w'_ => Below w.heap.size w w'_ ∧ Blk w'_ gb1830 26 #[.int .i64 t1827, .int .i64 t1828, .int .i64 t1829] ∧ Blk w'_ gb1832 43 #[.int .i64 ((nt t1826 t1828.toNat (0, 0, 0, false)).1), .int .i64 ((nt t1826 t1828.toNat (0, 0, 0, false)).2.1), .int .i64 t1834, .bool (t1842 == 1)] ∧ Blk w'_ gb1836 26 #[.int .i64 t1833, .int .i64 t1834, .int .i64 t1835] ∧ Blk w'_ gb1844 26 #[.int .i64 t1841, .int .i64 t1842, .int .i64 t1843] ∧ Own w'_ w.heap.size 9 (ut1825) (t1825.map Value.string) ∧ True) [5] [(0, true), (1, true), (2, true), (3, true), (4, false), (5, false)] (by kernel_rfl) (by kernel_rfl) (by kernel_rfl) rfl ?_
                intro w1933 hb_
                replace BKb1823 := hid (BKb1823.out.below hb_ BKb1823.out.lt)
                replace BKb1824 := hid (BKb1824.out.below hb_ BKb1824.out.lt)
                replace BKb1830 := hid (BKb1830.out.below hb_ BKb1830.out.lt)
                replace BKb1832 := hid (BKb1832.out.below hb_ BKb1832.out.lt)
                replace BKb1836 := hid (BKb1836.out.below hb_ BKb1836.out.lt)
                replace BKb1844 := hid (BKb1844.out.below hb_ BKb1844.out.lt)
                replace SWt1825 := hid (SWt1825.out.below hb_)
                replace HL := hid (HL.out.trans (hb_.mono HL.out.size))
                clear hb_
                refine sq_take (.agg #[.int .i64 ((nt t1826 t1828.toNat (0, 0, 0, false)).1), .int .i64 ((nt t1826 t1828.toNat (0, 0, 0, false)).2.1), .int .i64 t1834, .bool (t1842 == 1)]) ⟨HL.out, BKb1830.out, BKb1832.out, BKb1836.out, BKb1844.out, SWt1825.out, trivial⟩ rfl (fun w'_ hS_ => ex_load aT43 gb1832 0 #[.int .i64 ((nt t1826 t1828.toNat (0, 0, 0, false)).1), .int .i64 ((nt t1826 t1828.toNat (0, 0, 0, false)).2.1), .int .i64 t1834, .bool (t1842 == 1)] #[.int .i64 ((nt t1826 t1828.toNat (0, 0, 0, false)).1), .int .i64 ((nt t1826 t1828.toNat (0, 0, 0, false)).2.1), .int .i64 t1834, .bool (t1842 == 1)] hS_.2.2.1 (by simp) rfl _ rfl rfl) rfl rfl ?_
                intro ts_ ht_; simp only [List.setIfInBounds_toArray, List.set_cons_zero, List.set_cons_succ] at ht_; subst ht_
                refine sq_take (.pointer (some ⟨gb1844, 0, none⟩)) ⟨HL.out, BKb1830.out, BKb1832.out, BKb1836.out, BKb1844.out, SWt1825.out, trivial⟩ rfl (fun w'_ hS_ => ex_field 26 0 (.pointer (some ⟨gb1844, 0, none⟩)) (.pointer (some ⟨gb1844, 0, none⟩)) (fa26_0_0 gb1844) _ rfl rfl) rfl rfl ?_
                intro ts_ ht_; simp only [List.setIfInBounds_toArray, List.set_cons_zero, List.set_cons_succ] at ht_; subst ht_
                refine sq_take (.int .i64 t1841) ⟨HL.out, BKb1830.out, BKb1832.out, BKb1836.out, BKb1844.out, SWt1825.out, trivial⟩ rfl (fun w'_ hS_ => ex_get sT3 gb1844 (0) (.int .i64 t1841) (#[.int .i64 t1841, .int .i64 t1842, .int .i64 t1843]) hS_.2.2.2.2.1 rfl _ rfl rfl) rfl rfl ?_
                intro ts_ ht_; simp only [List.setIfInBounds_toArray, List.set_cons_zero, List.set_cons_succ] at ht_; subst ht_
                refine sq_take (.agg #[.int .i64 t1841, .int .i64 0, .int .i64 0]) ⟨HL.out, BKb1830.out, BKb1832.out, BKb1836.out, BKb1844.out, SWt1825.out, trivial⟩ rfl (fun w'_ hS_ => ex_build (.agg #[.int .i64 t1841, .int .i64 0, .int .i64 0]) _ rfl (by intro ww_; simp only [List.map_toArray, List.map_cons, List.map_nil]; kernel_rfl)) rfl rfl ?_
                intro ts_ ht_; simp only [List.setIfInBounds_toArray, List.set_cons_zero, List.set_cons_succ] at ht_; subst ht_
                refine sq_act rfl (fun Q'_ hQ_ => ?_)
                (with_reducible refine gate_s (t := 43) (p := 4) rfl ?_)
                refine ag_store aT43 gb1823 0 #[.int .i64 0, .int .i64 0, .int .i64 0, .bool false] #[.int .i64 ((nt t1826 t1828.toNat (0, 0, 0, false)).1), .int .i64 ((nt t1826 t1828.toNat (0, 0, 0, false)).2.1), .int .i64 t1834, .bool (t1842 == 1)] #[.int .i64 ((nt t1826 t1828.toNat (0, 0, 0, false)).1), .int .i64 ((nt t1826 t1828.toNat (0, 0, 0, false)).2.1), .int .i64 t1834, .bool (t1842 == 1)] BKb1823.out rfl (by simp) (by intro v_ hv_; simp at hv_; rcases hv_ with rfl | rfl | rfl | rfl <;> first | rfl) rfl rfl _ _ rfl rfl rfl ?_
                intro w1934 ho_ hB_
                replace BKb1824 := hid (BKb1824.out.off ho_ NBb1824_b1823.out)
                replace BKb1830 := hid (BKb1830.out.off ho_ NBb1830_b1823.out)
                replace BKb1832 := hid (BKb1832.out.off ho_ NBb1832_b1823.out)
                replace BKb1836 := hid (BKb1836.out.off ho_ NBb1836_b1823.out)
                replace BKb1844 := hid (BKb1844.out.off ho_ NBb1844_b1823.out)
                replace SWt1825 := hid (SWt1825.out.off ho_ BKb1823.out (by decide))
                replace HL := hid (ho_.below HL.out GEb1823.out)
                replace BKb1823 := hid hB_
                clear ho_ hB_
                refine act_end ?_
                refine hQ_ _ _ (fun _ => ⟨HL.out, BKb1830.out, BKb1832.out, BKb1836.out, BKb1844.out, SWt1825.out, trivial⟩) ?_
                clear hQ_ Q'_
                simp only [Act.put]
                refine sq_act rfl (fun Q'_ hQ_ => ?_)
                (with_reducible refine gate_s (t := 26) (p := 5) rfl ?_)
                refine ag_store aT26 gb1824 0 #[.int .i64 0, .int .i64 0, .int .i64 0] #[.int .i64 t1841, .int .i64 0, .int .i64 0] #[.int .i64 t1841, .int .i64 0, .int .i64 0] BKb1824.out rfl (by simp) (by intro v_ hv_; simp at hv_; rcases hv_ with rfl | rfl | rfl <;> first | rfl) rfl rfl _ _ rfl rfl rfl ?_
                intro w1935 ho_ hB_
                replace BKb1823 := hid (BKb1823.out.off ho_ NBb1823_b1824.out)
                replace BKb1830 := hid (BKb1830.out.off ho_ NBb1830_b1824.out)
                replace BKb1832 := hid (BKb1832.out.off ho_ NBb1832_b1824.out)
                replace BKb1836 := hid (BKb1836.out.off ho_ NBb1836_b1824.out)
                replace BKb1844 := hid (BKb1844.out.off ho_ NBb1844_b1824.out)
                replace SWt1825 := hid (SWt1825.out.off ho_ BKb1824.out (by decide))
                replace HL := hid (ho_.below HL.out GEb1824.out)
                replace BKb1824 := hid hB_
                clear ho_ hB_
                refine act_end ?_
                refine hQ_ _ _ (fun h_ => absurd h_ (by decide)) ?_
                clear hQ_ Q'_
                simp only [Act.put]
                refine sq_end ?_
                clear WR64 WR32
                go_wp2_with fail
                (try simp only [Act.put, List.setIfInBounds_toArray, List.set_cons_zero, List.set_cons_succ])
                refine bodyPost_ret (v := .tuple #[.agg #[.int .i64 ((nt t1826 t1828.toNat (0, 0, 0, false)).1), .int .i64 ((nt t1826 t1828.toNat (0, 0, 0, false)).2.1), .int .i64 t1834, .bool (t1842 == 1)], .agg #[.int .i64 t1841, .int .i64 0, .int .i64 0]]) (res_cc aT43 aT26 rfl _ gb1823 gb1824 #[.int .i64 ((nt t1826 t1828.toNat (0, 0, 0, false)).1), .int .i64 ((nt t1826 t1828.toNat (0, 0, 0, false)).2.1), .int .i64 t1834, .bool (t1842 == 1)] #[.int .i64 t1841, .int .i64 0, .int .i64 0] BKb1823.out rfl rfl BKb1824.out rfl rfl) rfl ?_
                exact ⟨by first | rfl | (simp; done) | (simp [*]; done), HL.out⟩
              · rw [if_neg c1910] at H
                have c1910b0 : (t1843 == 0) = false := beq_eq_false_iff_ne.mpr c1910
                have c1910b1 : (t1843 != 0) = true := bne_iff_ne.mpr c1910
                have hc1910 := hid c1910
                clear c1910
                simp only [Option.some.injEq, Prod.mk.injEq] at H
                obtain ⟨rfl, rfl, rfl, rfl, rfl, rfl, rfl⟩ := H
                go_enter Try.func36, Try.ntmps36
                have k1938 := True.intro
                have k1940 := True.intro
                have k1948 := True.intro
                have k1953 := True.intro
                go_wp2_with (first
                  | ((with_reducible refine gate_d (N := 4) rfl ?_); obtain ⟨gb1823, hgb1823⟩ : ∃ g_, w.heap.size = g_ := ⟨_, rfl⟩; refine ag_alloc aT43 gb1823 hgb1823 rfl rfl ?_; intro w1936 hb_ hB_ hs_; have GEb1823 : Hid (w.heap.size ≤ gb1823) := hid (by have := HL.out.size; omega); replace HL := hid (HL.out.trans (hb_.mono GEb1823.out)); have BKb1823 := hid hB_; clear hb_ hB_ hs_ hgb1823)
                  | ((with_reducible refine gate_d (N := 5) rfl ?_); obtain ⟨gb1824, hgb1824⟩ : ∃ g_, w1936.heap.size = g_ := ⟨_, rfl⟩; refine ag_alloc aT26 gb1824 hgb1824 rfl rfl ?_; intro w1937 hb_ hB_ hs_; have GEb1824 : Hid (w.heap.size ≤ gb1824) := hid (by have := HL.out.size; omega); have NBb1823_b1824 : Hid (gb1823 ≠ gb1824) := hid (by have := BKb1823.out.lt; omega); have NBb1824_b1823 : Hid (gb1824 ≠ gb1823) := hid (by have := NBb1823_b1824.out; omega); replace BKb1823 := hid (BKb1823.out.below hb_ (by rw [← hgb1824]; exact BKb1823.out.lt)); replace HL := hid (HL.out.trans (hb_.mono GEb1824.out)); have BKb1824 := hid hB_; clear hb_ hB_ hs_ hgb1824)
                  | (go_at_call 48; clear k1938; refine (i_stip_words.calls k t1825 t1826 _ A1849.out).mono ?_; rintro e_ w1939 ⟨ut1825, ut1826, rfl, so_t1825, so_t1826, hb_⟩; replace so_t1825 := so_t1825.mono HL.out.size; replace so_t1826 := so_t1826.mono HL.out.size; have SWn_t1825 := hid so_t1825; clear so_t1825; have SWn_t1826 := hid so_t1826; clear so_t1826; replace BKb1823 := hid (BKb1823.out.below hb_ BKb1823.out.lt); replace BKb1824 := hid (BKb1824.out.below hb_ BKb1824.out.lt); replace HL := hid (HL.out.trans (hb_.mono HL.out.size)); clear hb_; have SWt1825 := SWn_t1825; clear SWn_t1825; have SWt1826 := SWn_t1826; clear SWn_t1826)
                  | (go_at_call 12; clear k1940; refine (i_lex_OneOf.calls k a0 a1 (ut1825) t1825 t1827 t1828 t1829 _ SWt1825.out.sl A1850.out).mono ?_; rintro e_ w1941 ⟨rfl, hb_⟩; replace BKb1823 := hid (BKb1823.out.below hb_ BKb1823.out.lt); replace BKb1824 := hid (BKb1824.out.below hb_ BKb1824.out.lt); replace SWt1825 := hid (SWt1825.out.below hb_); replace SWt1826 := hid (SWt1826.out.below hb_); replace HL := hid (HL.out.trans (hb_.mono HL.out.size)); clear hb_)
                  | ((with_reducible refine gate_d (N := 8) rfl ?_); obtain ⟨gb1830, hgb1830⟩ : ∃ g_, w1941.heap.size = g_ := ⟨_, rfl⟩; refine ag_alloc aT26 gb1830 hgb1830 rfl rfl ?_; intro w1942 hb_ hB_ hs_; have GEb1830 : Hid (w.heap.size ≤ gb1830) := hid (by have := HL.out.size; omega); have NBb1823_b1830 : Hid (gb1823 ≠ gb1830) := hid (by have := BKb1823.out.lt; omega); have NBb1830_b1823 : Hid (gb1830 ≠ gb1823) := hid (by have := NBb1823_b1830.out; omega); replace BKb1823 := hid (BKb1823.out.below hb_ (by rw [← hgb1830]; exact BKb1823.out.lt)); have NBb1824_b1830 : Hid (gb1824 ≠ gb1830) := hid (by have := BKb1824.out.lt; omega); have NBb1830_b1824 : Hid (gb1830 ≠ gb1824) := hid (by have := NBb1824_b1830.out; omega); replace BKb1824 := hid (BKb1824.out.below hb_ (by rw [← hgb1830]; exact BKb1824.out.lt)); replace SWt1825 := hid (SWt1825.out.below (by rw [hgb1830]; exact hb_)); replace SWt1826 := hid (SWt1826.out.below (by rw [hgb1830]; exact hb_)); replace HL := hid (HL.out.trans (hb_.mono GEb1830.out)); have BKb1830 := hid hB_; clear hb_ hB_ hs_ hgb1830)
                  | ((with_reducible refine gate_s (t := 26) (p := 8) rfl ?_); refine ag_store aT26 gb1830 0 #[.int .i64 0, .int .i64 0, .int .i64 0] #[.int .i64 t1827, .int .i64 t1828, .int .i64 t1829] #[.int .i64 t1827, .int .i64 t1828, .int .i64 t1829] BKb1830.out rfl (by simp) (by intro v_ hv_; simp at hv_; rcases hv_ with rfl | rfl | rfl <;> first | rfl) rfl rfl _ _ rfl rfl rfl ?_; intro w1943 ho_ hB_; replace BKb1823 := hid (BKb1823.out.off ho_ NBb1823_b1830.out); replace BKb1824 := hid (BKb1824.out.off ho_ NBb1824_b1830.out); replace SWt1825 := hid (SWt1825.out.off ho_ BKb1830.out (by decide)); replace SWt1826 := hid (SWt1826.out.off ho_ BKb1830.out (by decide)); replace HL := hid (ho_.below HL.out GEb1830.out); replace BKb1830 := hid hB_; clear ho_ hB_)
                  | ((with_reducible refine gate_d (N := 22) rfl ?_); refine ag_fix (.pointer (some ⟨gb1830, 2, none⟩)) (ex_field 26 2 (.pointer (some ⟨gb1830, 0, none⟩)) (.pointer (some ⟨gb1830, 2, none⟩)) (fa26_2_0 gb1830) _ rfl rfl) rfl ?_)
                  | ((with_reducible refine gate_d (N := 23) rfl ?_); refine ag_fix (.int .i64 t1829) (ex_get sT24 gb1830 (2) (.int .i64 t1829) (#[.int .i64 t1827, .int .i64 t1828, .int .i64 t1829]) BKb1830.out rfl _ rfl rfl) rfl ?_)
                  | ((with_reducible refine gate_d (N := 28) rfl ?_); refine ag_fix (.pointer (some ⟨gb1830, 1, none⟩)) (ex_field 26 1 (.pointer (some ⟨gb1830, 0, none⟩)) (.pointer (some ⟨gb1830, 1, none⟩)) (fa26_1_0 gb1830) _ rfl rfl) rfl ?_)
                  | ((with_reducible refine gate_d (N := 29) rfl ?_); refine ag_fix (.int .i64 t1828) (ex_get sT3 gb1830 (1) (.int .i64 t1828) (#[.int .i64 t1827, .int .i64 t1828, .int .i64 t1829]) BKb1830.out rfl _ rfl rfl) rfl ?_)
                  | ((with_reducible refine gate_d (N := 30) rfl ?_); obtain ⟨ad1831, c1944, hv1945, HCad1831_⟩ := SlN.get (l := t1826) (f := en43) en43_len SWt1826.out.sl (0, 0, 0, false) (i := t1828) hc1852.out hc1853.out; have HCad1831 := hid HCad1831_; clear HCad1831_; refine ag_fix (.pointer (some (ad1831.add (t1828.toNat * 4)))) (ex_satN _ _ t1828 _ _ hv1945 hc1852.out hc1853.out us74 aT43.size _ _ rfl rfl rfl) rfl ?_; clear hv1945)
                  | ((with_reducible refine gate_d (N := 31) rfl ?_); refine ag_fix (.agg #[.int .i64 ((nt t1826 t1828.toNat (0, 0, 0, false)).1), .int .i64 ((nt t1826 t1828.toNat (0, 0, 0, false)).2.1), .int .i64 ((nt t1826 t1828.toNat (0, 0, 0, false)).2.2.1), .bool ((nt t1826 t1828.toNat (0, 0, 0, false)).2.2.2)]) (ex_ldN aT43 _ (en43 (nt t1826 t1828.toNat (0, 0, 0, false))) rfl HCad1831.out _ rfl rfl) rfl ?_)
                  | ((with_reducible refine gate_d (N := 9) rfl ?_); obtain ⟨gb1832, hgb1832⟩ : ∃ g_, w1943.heap.size = g_ := ⟨_, rfl⟩; refine ag_alloc aT43 gb1832 hgb1832 rfl rfl ?_; intro w1946 hb_ hB_ hs_; have GEb1832 : Hid (w.heap.size ≤ gb1832) := hid (by have := HL.out.size; omega); have NBb1823_b1832 : Hid (gb1823 ≠ gb1832) := hid (by have := BKb1823.out.lt; omega); have NBb1832_b1823 : Hid (gb1832 ≠ gb1823) := hid (by have := NBb1823_b1832.out; omega); replace BKb1823 := hid (BKb1823.out.below hb_ (by rw [← hgb1832]; exact BKb1823.out.lt)); have NBb1824_b1832 : Hid (gb1824 ≠ gb1832) := hid (by have := BKb1824.out.lt; omega); have NBb1832_b1824 : Hid (gb1832 ≠ gb1824) := hid (by have := NBb1824_b1832.out; omega); replace BKb1824 := hid (BKb1824.out.below hb_ (by rw [← hgb1832]; exact BKb1824.out.lt)); have NBb1830_b1832 : Hid (gb1830 ≠ gb1832) := hid (by have := BKb1830.out.lt; omega); have NBb1832_b1830 : Hid (gb1832 ≠ gb1830) := hid (by have := NBb1830_b1832.out; omega); replace BKb1830 := hid (BKb1830.out.below hb_ (by rw [← hgb1832]; exact BKb1830.out.lt)); replace SWt1825 := hid (SWt1825.out.below (by rw [hgb1832]; exact hb_)); replace SWt1826 := hid (SWt1826.out.below (by rw [hgb1832]; exact hb_)); replace HL := hid (HL.out.trans (hb_.mono GEb1832.out)); have BKb1832 := hid hB_; clear hb_ hB_ hs_ hgb1832)
                  | ((with_reducible refine gate_s (t := 43) (p := 9) rfl ?_); refine ag_store aT43 gb1832 0 #[.int .i64 0, .int .i64 0, .int .i64 0, .bool false] #[.int .i64 ((nt t1826 t1828.toNat (0, 0, 0, false)).1), .int .i64 ((nt t1826 t1828.toNat (0, 0, 0, false)).2.1), .int .i64 ((nt t1826 t1828.toNat (0, 0, 0, false)).2.2.1), .bool ((nt t1826 t1828.toNat (0, 0, 0, false)).2.2.2)] #[.int .i64 ((nt t1826 t1828.toNat (0, 0, 0, false)).1), .int .i64 ((nt t1826 t1828.toNat (0, 0, 0, false)).2.1), .int .i64 ((nt t1826 t1828.toNat (0, 0, 0, false)).2.2.1), .bool ((nt t1826 t1828.toNat (0, 0, 0, false)).2.2.2)] BKb1832.out rfl (by simp) (by intro v_ hv_; simp at hv_; rcases hv_ with rfl | rfl | rfl | rfl <;> first | rfl) rfl rfl _ _ rfl rfl rfl ?_; intro w1947 ho_ hB_; replace BKb1823 := hid (BKb1823.out.off ho_ NBb1823_b1832.out); replace BKb1824 := hid (BKb1824.out.off ho_ NBb1824_b1832.out); replace BKb1830 := hid (BKb1830.out.off ho_ NBb1830_b1832.out); clear SWt1826; replace SWt1825 := hid (SWt1825.out.off ho_ BKb1832.out (by decide)); replace HL := hid (ho_.below HL.out GEb1832.out); replace BKb1832 := hid hB_; clear ho_ hB_)
                  | ((with_reducible refine gate_d (N := 32) rfl ?_); refine ag_fix (.pointer (some ⟨gb1832, 0, none⟩)) (ex_field 43 0 (.pointer (some ⟨gb1832, 0, none⟩)) (.pointer (some ⟨gb1832, 0, none⟩)) (fa43_0_0 gb1832) _ rfl rfl) rfl ?_)
                  | ((with_reducible refine gate_d (N := 33) rfl ?_); refine ag_fix (.int .i64 ((nt t1826 t1828.toNat (0, 0, 0, false)).1)) (ex_get sT3 gb1832 (0) (.int .i64 ((nt t1826 t1828.toNat (0, 0, 0, false)).1)) (#[.int .i64 ((nt t1826 t1828.toNat (0, 0, 0, false)).1), .int .i64 ((nt t1826 t1828.toNat (0, 0, 0, false)).2.1), .int .i64 ((nt t1826 t1828.toNat (0, 0, 0, false)).2.2.1), .bool ((nt t1826 t1828.toNat (0, 0, 0, false)).2.2.2)]) BKb1832.out rfl _ rfl rfl) rfl ?_)
                  | ((with_reducible refine gate_d (N := 36) rfl ?_); refine ag_fix (.pointer (some ⟨gb1830, 0, none⟩)) (ex_field 26 0 (.pointer (some ⟨gb1830, 0, none⟩)) (.pointer (some ⟨gb1830, 0, none⟩)) (fa26_0_0 gb1830) _ rfl rfl) rfl ?_)
                  | ((with_reducible refine gate_d (N := 37) rfl ?_); refine ag_fix (.int .i64 t1827) (ex_get sT3 gb1830 (0) (.int .i64 t1827) (#[.int .i64 t1827, .int .i64 t1828, .int .i64 t1829]) BKb1830.out rfl _ rfl rfl) rfl ?_)
                  | (go_at_call 14; clear k1948; refine (i_lex_Number.calls k a0 t1827 0 64 t1833 t1834 t1835 _ A1855.out).mono ?_; rintro e_ w1949 ⟨rfl, hb_⟩; replace BKb1823 := hid (BKb1823.out.below hb_ BKb1823.out.lt); replace BKb1824 := hid (BKb1824.out.below hb_ BKb1824.out.lt); replace BKb1830 := hid (BKb1830.out.below hb_ BKb1830.out.lt); replace BKb1832 := hid (BKb1832.out.below hb_ BKb1832.out.lt); replace SWt1825 := hid (SWt1825.out.below hb_); replace HL := hid (HL.out.trans (hb_.mono HL.out.size)); clear hb_)
                  | ((with_reducible refine gate_d (N := 11) rfl ?_); obtain ⟨gb1836, hgb1836⟩ : ∃ g_, w1949.heap.size = g_ := ⟨_, rfl⟩; refine ag_alloc aT26 gb1836 hgb1836 rfl rfl ?_; intro w1950 hb_ hB_ hs_; have GEb1836 : Hid (w.heap.size ≤ gb1836) := hid (by have := HL.out.size; omega); have NBb1823_b1836 : Hid (gb1823 ≠ gb1836) := hid (by have := BKb1823.out.lt; omega); have NBb1836_b1823 : Hid (gb1836 ≠ gb1823) := hid (by have := NBb1823_b1836.out; omega); replace BKb1823 := hid (BKb1823.out.below hb_ (by rw [← hgb1836]; exact BKb1823.out.lt)); have NBb1824_b1836 : Hid (gb1824 ≠ gb1836) := hid (by have := BKb1824.out.lt; omega); have NBb1836_b1824 : Hid (gb1836 ≠ gb1824) := hid (by have := NBb1824_b1836.out; omega); replace BKb1824 := hid (BKb1824.out.below hb_ (by rw [← hgb1836]; exact BKb1824.out.lt)); have NBb1830_b1836 : Hid (gb1830 ≠ gb1836) := hid (by have := BKb1830.out.lt; omega); have NBb1836_b1830 : Hid (gb1836 ≠ gb1830) := hid (by have := NBb1830_b1836.out; omega); replace BKb1830 := hid (BKb1830.out.below hb_ (by rw [← hgb1836]; exact BKb1830.out.lt)); have NBb1832_b1836 : Hid (gb1832 ≠ gb1836) := hid (by have := BKb1832.out.lt; omega); have NBb1836_b1832 : Hid (gb1836 ≠ gb1832) := hid (by have := NBb1832_b1836.out; omega); replace BKb1832 := hid (BKb1832.out.below hb_ (by rw [← hgb1836]; exact BKb1832.out.lt)); replace SWt1825 := hid (SWt1825.out.below (by rw [hgb1836]; exact hb_)); replace HL := hid (HL.out.trans (hb_.mono GEb1836.out)); have BKb1836 := hid hB_; clear hb_ hB_ hs_ hgb1836)
                  | ((with_reducible refine gate_s (t := 26) (p := 11) rfl ?_); refine ag_store aT26 gb1836 0 #[.int .i64 0, .int .i64 0, .int .i64 0] #[.int .i64 t1833, .int .i64 t1834, .int .i64 t1835] #[.int .i64 t1833, .int .i64 t1834, .int .i64 t1835] BKb1836.out rfl (by simp) (by intro v_ hv_; simp at hv_; rcases hv_ with rfl | rfl | rfl <;> first | rfl) rfl rfl _ _ rfl rfl rfl ?_; intro w1951 ho_ hB_; replace BKb1823 := hid (BKb1823.out.off ho_ NBb1823_b1836.out); replace BKb1824 := hid (BKb1824.out.off ho_ NBb1824_b1836.out); replace BKb1830 := hid (BKb1830.out.off ho_ NBb1830_b1836.out); replace BKb1832 := hid (BKb1832.out.off ho_ NBb1832_b1836.out); replace SWt1825 := hid (SWt1825.out.off ho_ BKb1836.out (by decide)); replace HL := hid (ho_.below HL.out GEb1836.out); replace BKb1836 := hid hB_; clear ho_ hB_)
                  | ((with_reducible refine gate_d (N := 40) rfl ?_); refine ag_fix (.pointer (some ⟨gb1836, 2, none⟩)) (ex_field 26 2 (.pointer (some ⟨gb1836, 0, none⟩)) (.pointer (some ⟨gb1836, 2, none⟩)) (fa26_2_0 gb1836) _ rfl rfl) rfl ?_)
                  | ((with_reducible refine gate_d (N := 41) rfl ?_); refine ag_fix (.int .i64 t1835) (ex_get sT24 gb1836 (2) (.int .i64 t1835) (#[.int .i64 t1833, .int .i64 t1834, .int .i64 t1835]) BKb1836.out rfl _ rfl rfl) rfl ?_)
                  | ((with_reducible refine gate_d (N := 45) rfl ?_); refine ag_fix (.pointer (some ⟨gb1836, 1, none⟩)) (ex_field 26 1 (.pointer (some ⟨gb1836, 0, none⟩)) (.pointer (some ⟨gb1836, 1, none⟩)) (fa26_1_0 gb1836) _ rfl rfl) rfl ?_)
                  | ((with_reducible refine gate_d (N := 46) rfl ?_); refine ag_fix (.int .i64 t1834) (ex_get sT3 gb1836 (1) (.int .i64 t1834) (#[.int .i64 t1833, .int .i64 t1834, .int .i64 t1835]) BKb1836.out rfl _ rfl rfl) rfl ?_)
                  | ((with_reducible refine gate_d (N := 47) rfl ?_); refine ag_fix (.pointer (some ⟨gb1832, 2, none⟩)) (ex_field 43 2 (.pointer (some ⟨gb1832, 0, none⟩)) (.pointer (some ⟨gb1832, 2, none⟩)) (fa43_2_0 gb1832) _ rfl rfl) rfl ?_)
                  | ((with_reducible refine gate_s (t := 3) (p := 47) rfl ?_); refine ag_set sT3 gb1832 (2) (.int .i64 t1834) #[.int .i64 ((nt t1826 t1828.toNat (0, 0, 0, false)).1), .int .i64 ((nt t1826 t1828.toNat (0, 0, 0, false)).2.1), .int .i64 ((nt t1826 t1828.toNat (0, 0, 0, false)).2.2.1), .bool ((nt t1826 t1828.toNat (0, 0, 0, false)).2.2.2)] #[.int .i64 ((nt t1826 t1828.toNat (0, 0, 0, false)).1), .int .i64 ((nt t1826 t1828.toNat (0, 0, 0, false)).2.1), .int .i64 t1834, .bool ((nt t1826 t1828.toNat (0, 0, 0, false)).2.2.2)] BKb1832.out (by simp) rfl rfl rfl rfl _ _ rfl rfl rfl ?_; intro w1952 ho_ hB_; replace BKb1823 := hid (BKb1823.out.off ho_ NBb1823_b1832.out); replace BKb1824 := hid (BKb1824.out.off ho_ NBb1824_b1832.out); replace BKb1830 := hid (BKb1830.out.off ho_ NBb1830_b1832.out); replace BKb1836 := hid (BKb1836.out.off ho_ NBb1836_b1832.out); replace SWt1825 := hid (SWt1825.out.off ho_ BKb1832.out (by decide)); replace HL := hid (ho_.below HL.out GEb1832.out); replace BKb1832 := hid hB_; clear ho_ hB_)
                  | ((with_reducible refine gate_d (N := 48) rfl ?_); refine ag_fix (.pointer (some ⟨gb1832, 0, none⟩)) (ex_field 43 0 (.pointer (some ⟨gb1832, 0, none⟩)) (.pointer (some ⟨gb1832, 0, none⟩)) (fa43_0_0 gb1832) _ rfl rfl) rfl ?_)
                  | ((with_reducible refine gate_d (N := 49) rfl ?_); refine ag_fix (.int .i64 ((nt t1826 t1828.toNat (0, 0, 0, false)).1)) (ex_get sT3 gb1832 (0) (.int .i64 ((nt t1826 t1828.toNat (0, 0, 0, false)).1)) (#[.int .i64 ((nt t1826 t1828.toNat (0, 0, 0, false)).1), .int .i64 ((nt t1826 t1828.toNat (0, 0, 0, false)).2.1), .int .i64 t1834, .bool ((nt t1826 t1828.toNat (0, 0, 0, false)).2.2.2)]) BKb1832.out rfl _ rfl rfl) rfl ?_)
                  | ((with_reducible refine gate_d (N := 55) rfl ?_); refine ag_fix (.pointer (some ⟨gb1832, 2, none⟩)) (ex_field 43 2 (.pointer (some ⟨gb1832, 0, none⟩)) (.pointer (some ⟨gb1832, 2, none⟩)) (fa43_2_0 gb1832) _ rfl rfl) rfl ?_)
                  | ((with_reducible refine gate_d (N := 56) rfl ?_); refine ag_fix (.int .i64 t1834) (ex_get sT3 gb1832 (2) (.int .i64 t1834) (#[.int .i64 ((nt t1826 t1828.toNat (0, 0, 0, false)).1), .int .i64 ((nt t1826 t1828.toNat (0, 0, 0, false)).2.1), .int .i64 t1834, .bool ((nt t1826 t1828.toNat (0, 0, 0, false)).2.2.2)]) BKb1832.out rfl _ rfl rfl) rfl ?_)
                  | ((with_reducible refine gate_d (N := 73) rfl ?_); refine ag_fix (.pointer (some ⟨gb1836, 0, none⟩)) (ex_field 26 0 (.pointer (some ⟨gb1836, 0, none⟩)) (.pointer (some ⟨gb1836, 0, none⟩)) (fa26_0_0 gb1836) _ rfl rfl) rfl ?_)
                  | ((with_reducible refine gate_d (N := 74) rfl ?_); refine ag_fix (.int .i64 t1833) (ex_get sT3 gb1836 (0) (.int .i64 t1833) (#[.int .i64 t1833, .int .i64 t1834, .int .i64 t1835]) BKb1836.out rfl _ rfl rfl) rfl ?_)
                  | (go_at_call 49; clear k1953; refine (i_stip_halved.calls k a0 t1833 t1841 t1842 t1843 _ A1909.out).mono ?_; rintro e_ w1954 ⟨rfl, hb_⟩; replace BKb1823 := hid (BKb1823.out.below hb_ BKb1823.out.lt); replace BKb1824 := hid (BKb1824.out.below hb_ BKb1824.out.lt); replace BKb1830 := hid (BKb1830.out.below hb_ BKb1830.out.lt); replace BKb1832 := hid (BKb1832.out.below hb_ BKb1832.out.lt); replace BKb1836 := hid (BKb1836.out.below hb_ BKb1836.out.lt); replace SWt1825 := hid (SWt1825.out.below hb_); replace HL := hid (HL.out.trans (hb_.mono HL.out.size)); clear hb_)
                  | ((with_reducible refine gate_d (N := 13) rfl ?_); obtain ⟨gb1844, hgb1844⟩ : ∃ g_, w1954.heap.size = g_ := ⟨_, rfl⟩; refine ag_alloc aT26 gb1844 hgb1844 rfl rfl ?_; intro w1955 hb_ hB_ hs_; have GEb1844 : Hid (w.heap.size ≤ gb1844) := hid (by have := HL.out.size; omega); have NBb1823_b1844 : Hid (gb1823 ≠ gb1844) := hid (by have := BKb1823.out.lt; omega); have NBb1844_b1823 : Hid (gb1844 ≠ gb1823) := hid (by have := NBb1823_b1844.out; omega); replace BKb1823 := hid (BKb1823.out.below hb_ (by rw [← hgb1844]; exact BKb1823.out.lt)); have NBb1824_b1844 : Hid (gb1824 ≠ gb1844) := hid (by have := BKb1824.out.lt; omega); have NBb1844_b1824 : Hid (gb1844 ≠ gb1824) := hid (by have := NBb1824_b1844.out; omega); replace BKb1824 := hid (BKb1824.out.below hb_ (by rw [← hgb1844]; exact BKb1824.out.lt)); have NBb1830_b1844 : Hid (gb1830 ≠ gb1844) := hid (by have := BKb1830.out.lt; omega); have NBb1844_b1830 : Hid (gb1844 ≠ gb1830) := hid (by have := NBb1830_b1844.out; omega); replace BKb1830 := hid (BKb1830.out.below hb_ (by rw [← hgb1844]; exact BKb1830.out.lt)); have NBb1832_b1844 : Hid (gb1832 ≠ gb1844) := hid (by have := BKb1832.out.lt; omega); have NBb1844_b1832 : Hid (gb1844 ≠ gb1832) := hid (by have := NBb1832_b1844.out; omega); replace BKb1832 := hid (BKb1832.out.below hb_ (by rw [← hgb1844]; exact BKb1832.out.lt)); have NBb1836_b1844 : Hid (gb1836 ≠ gb1844) := hid (by have := BKb1836.out.lt; omega); have NBb1844_b1836 : Hid (gb1844 ≠ gb1836) := hid (by have := NBb1836_b1844.out; omega); replace BKb1836 := hid (BKb1836.out.below hb_ (by rw [← hgb1844]; exact BKb1836.out.lt)); replace SWt1825 := hid (SWt1825.out.below (by rw [hgb1844]; exact hb_)); replace HL := hid (HL.out.trans (hb_.mono GEb1844.out)); have BKb1844 := hid hB_; clear hb_ hB_ hs_ hgb1844)
                  | ((with_reducible refine gate_s (t := 26) (p := 13) rfl ?_); refine ag_store aT26 gb1844 0 #[.int .i64 0, .int .i64 0, .int .i64 0] #[.int .i64 t1841, .int .i64 t1842, .int .i64 t1843] #[.int .i64 t1841, .int .i64 t1842, .int .i64 t1843] BKb1844.out rfl (by simp) (by intro v_ hv_; simp at hv_; rcases hv_ with rfl | rfl | rfl <;> first | rfl) rfl rfl _ _ rfl rfl rfl ?_; intro w1956 ho_ hB_; replace BKb1823 := hid (BKb1823.out.off ho_ NBb1823_b1844.out); replace BKb1824 := hid (BKb1824.out.off ho_ NBb1824_b1844.out); replace BKb1830 := hid (BKb1830.out.off ho_ NBb1830_b1844.out); replace BKb1832 := hid (BKb1832.out.off ho_ NBb1832_b1844.out); replace BKb1836 := hid (BKb1836.out.off ho_ NBb1836_b1844.out); replace SWt1825 := hid (SWt1825.out.off ho_ BKb1844.out (by decide)); replace HL := hid (ho_.below HL.out GEb1844.out); replace BKb1844 := hid hB_; clear ho_ hB_)
                  | ((with_reducible refine gate_d (N := 76) rfl ?_); refine ag_fix (.pointer (some ⟨gb1844, 2, none⟩)) (ex_field 26 2 (.pointer (some ⟨gb1844, 0, none⟩)) (.pointer (some ⟨gb1844, 2, none⟩)) (fa26_2_0 gb1844) _ rfl rfl) rfl ?_)
                  | ((with_reducible refine gate_d (N := 77) rfl ?_); refine ag_fix (.int .i64 t1843) (ex_get sT24 gb1844 (2) (.int .i64 t1843) (#[.int .i64 t1841, .int .i64 t1842, .int .i64 t1843]) BKb1844.out rfl _ rfl rfl) rfl ?_))
                (try simp only [Act.put, List.setIfInBounds_toArray, List.set_cons_zero, List.set_cons_succ])
                have WR64 := i64_w
                have WR32 := i32_w
                refine sq_region (fun w'_ => Below w.heap.size w w'_ ∧ Blk w'_ gb1830 26 #[.int .i64 t1827, .int .i64 t1828, .int .i64 t1829] ∧ Blk w'_ gb1832 43 #[.int .i64 ((nt t1826 t1828.toNat (0, 0, 0, false)).1), .int .i64 ((nt t1826 t1828.toNat (0, 0, 0, false)).2.1), .int .i64 t1834, .bool ((nt t1826 t1828.toNat (0, 0, 0, false)).2.2.2)] ∧ Blk w'_ gb1836 26 #[.int .i64 t1833, .int .i64 t1834, .int .i64 t1835] ∧ Blk w'_ gb1844 26 #[.int .i64 t1841, .int .i64 t1842, .int .i64 t1843] ∧ Own w'_ w.heap.size 9 (ut1825) (t1825.map Value.string) ∧ True) [7] [(0, true), (1, true), (2, true), (3, true), (4, true), (5, true), (6, false), (7, false)] (by kernel_rfl) (by kernel_rfl) (by kernel_rfl) rfl ?_
                intro w1957 hb_
                replace BKb1823 := hid (BKb1823.out.below hb_ BKb1823.out.lt)
                replace BKb1824 := hid (BKb1824.out.below hb_ BKb1824.out.lt)
                replace BKb1830 := hid (BKb1830.out.below hb_ BKb1830.out.lt)
                replace BKb1832 := hid (BKb1832.out.below hb_ BKb1832.out.lt)
                replace BKb1836 := hid (BKb1836.out.below hb_ BKb1836.out.lt)
                replace BKb1844 := hid (BKb1844.out.below hb_ BKb1844.out.lt)
                replace SWt1825 := hid (SWt1825.out.below hb_)
                replace HL := hid (HL.out.trans (hb_.mono HL.out.size))
                clear hb_
                refine sq_take (.agg #[.int .i64 0, .int .i64 0, .int .i64 0, .bool false]) ⟨HL.out, BKb1830.out, BKb1832.out, BKb1836.out, BKb1844.out, SWt1825.out, trivial⟩ rfl (fun w'_ hS_ => ex_build (.agg #[.int .i64 0, .int .i64 0, .int .i64 0, .bool false]) _ rfl (by intro ww_; kernel_rfl)) rfl rfl ?_
                intro ts_ ht_; simp only [List.setIfInBounds_toArray, List.set_cons_zero, List.set_cons_succ] at ht_; subst ht_
                refine sq_take (.pointer (some ⟨gb1844, 0, none⟩)) ⟨HL.out, BKb1830.out, BKb1832.out, BKb1836.out, BKb1844.out, SWt1825.out, trivial⟩ rfl (fun w'_ hS_ => ex_field 26 0 (.pointer (some ⟨gb1844, 0, none⟩)) (.pointer (some ⟨gb1844, 0, none⟩)) (fa26_0_0 gb1844) _ rfl rfl) rfl rfl ?_
                intro ts_ ht_; simp only [List.setIfInBounds_toArray, List.set_cons_zero, List.set_cons_succ] at ht_; subst ht_
                refine sq_take (.int .i64 t1841) ⟨HL.out, BKb1830.out, BKb1832.out, BKb1836.out, BKb1844.out, SWt1825.out, trivial⟩ rfl (fun w'_ hS_ => ex_get sT3 gb1844 (0) (.int .i64 t1841) (#[.int .i64 t1841, .int .i64 t1842, .int .i64 t1843]) hS_.2.2.2.2.1 rfl _ rfl rfl) rfl rfl ?_
                intro ts_ ht_; simp only [List.setIfInBounds_toArray, List.set_cons_zero, List.set_cons_succ] at ht_; subst ht_
                refine sq_take (.pointer (some ⟨gb1844, 2, none⟩)) ⟨HL.out, BKb1830.out, BKb1832.out, BKb1836.out, BKb1844.out, SWt1825.out, trivial⟩ rfl (fun w'_ hS_ => ex_field 26 2 (.pointer (some ⟨gb1844, 0, none⟩)) (.pointer (some ⟨gb1844, 2, none⟩)) (fa26_2_0 gb1844) _ rfl rfl) rfl rfl ?_
                intro ts_ ht_; simp only [List.setIfInBounds_toArray, List.set_cons_zero, List.set_cons_succ] at ht_; subst ht_
                refine sq_take (.int .i64 t1843) ⟨HL.out, BKb1830.out, BKb1832.out, BKb1836.out, BKb1844.out, SWt1825.out, trivial⟩ rfl (fun w'_ hS_ => ex_get sT24 gb1844 (2) (.int .i64 t1843) (#[.int .i64 t1841, .int .i64 t1842, .int .i64 t1843]) hS_.2.2.2.2.1 rfl _ rfl rfl) rfl rfl ?_
                intro ts_ ht_; simp only [List.setIfInBounds_toArray, List.set_cons_zero, List.set_cons_succ] at ht_; subst ht_
                refine sq_take (.agg #[.int .i64 t1841, .int .i64 0, .int .i64 t1843]) ⟨HL.out, BKb1830.out, BKb1832.out, BKb1836.out, BKb1844.out, SWt1825.out, trivial⟩ rfl (fun w'_ hS_ => ex_build (.agg #[.int .i64 t1841, .int .i64 0, .int .i64 t1843]) _ rfl (by intro ww_; simp only [List.map_toArray, List.map_cons, List.map_nil]; kernel_rfl)) rfl rfl ?_
                intro ts_ ht_; simp only [List.setIfInBounds_toArray, List.set_cons_zero, List.set_cons_succ] at ht_; subst ht_
                refine sq_act rfl (fun Q'_ hQ_ => ?_)
                (with_reducible refine gate_s (t := 43) (p := 4) rfl ?_)
                refine ag_store aT43 gb1823 0 #[.int .i64 0, .int .i64 0, .int .i64 0, .bool false] #[.int .i64 0, .int .i64 0, .int .i64 0, .bool false] #[.int .i64 0, .int .i64 0, .int .i64 0, .bool false] BKb1823.out rfl (by simp) (by intro v_ hv_; simp at hv_; rcases hv_ with rfl | rfl | rfl | rfl <;> first | rfl) rfl rfl _ _ rfl rfl rfl ?_
                intro w1958 ho_ hB_
                replace BKb1824 := hid (BKb1824.out.off ho_ NBb1824_b1823.out)
                replace BKb1830 := hid (BKb1830.out.off ho_ NBb1830_b1823.out)
                replace BKb1832 := hid (BKb1832.out.off ho_ NBb1832_b1823.out)
                replace BKb1836 := hid (BKb1836.out.off ho_ NBb1836_b1823.out)
                replace BKb1844 := hid (BKb1844.out.off ho_ NBb1844_b1823.out)
                replace SWt1825 := hid (SWt1825.out.off ho_ BKb1823.out (by decide))
                replace HL := hid (ho_.below HL.out GEb1823.out)
                replace BKb1823 := hid hB_
                clear ho_ hB_
                refine act_end ?_
                refine hQ_ _ _ (fun _ => ⟨HL.out, BKb1830.out, BKb1832.out, BKb1836.out, BKb1844.out, SWt1825.out, trivial⟩) ?_
                clear hQ_ Q'_
                simp only [Act.put]
                refine sq_act rfl (fun Q'_ hQ_ => ?_)
                (with_reducible refine gate_s (t := 26) (p := 5) rfl ?_)
                refine ag_store aT26 gb1824 0 #[.int .i64 0, .int .i64 0, .int .i64 0] #[.int .i64 t1841, .int .i64 0, .int .i64 t1843] #[.int .i64 t1841, .int .i64 0, .int .i64 t1843] BKb1824.out rfl (by simp) (by intro v_ hv_; simp at hv_; rcases hv_ with rfl | rfl | rfl <;> first | rfl) rfl rfl _ _ rfl rfl rfl ?_
                intro w1959 ho_ hB_
                replace BKb1823 := hid (BKb1823.out.off ho_ NBb1823_b1824.out)
                replace BKb1830 := hid (BKb1830.out.off ho_ NBb1830_b1824.out)
                replace BKb1832 := hid (BKb1832.out.off ho_ NBb1832_b1824.out)
                replace BKb1836 := hid (BKb1836.out.off ho_ NBb1836_b1824.out)
                replace BKb1844 := hid (BKb1844.out.off ho_ NBb1844_b1824.out)
                replace SWt1825 := hid (SWt1825.out.off ho_ BKb1824.out (by decide))
                replace HL := hid (ho_.below HL.out GEb1824.out)
                replace BKb1824 := hid hB_
                clear ho_ hB_
                refine act_end ?_
                refine hQ_ _ _ (fun h_ => absurd h_ (by decide)) ?_
                clear hQ_ Q'_
                simp only [Act.put]
                refine sq_end ?_
                clear WR64 WR32
                go_wp2_with fail
                (try simp only [Act.put, List.setIfInBounds_toArray, List.set_cons_zero, List.set_cons_succ])
                refine bodyPost_ret (v := .tuple #[.agg #[.int .i64 0, .int .i64 0, .int .i64 0, .bool false], .agg #[.int .i64 t1841, .int .i64 0, .int .i64 t1843]]) (res_cc aT43 aT26 rfl _ gb1823 gb1824 #[.int .i64 0, .int .i64 0, .int .i64 0, .bool false] #[.int .i64 t1841, .int .i64 0, .int .i64 t1843] BKb1823.out rfl rfl BKb1824.out rfl rfl) rfl ?_
                exact ⟨by first | rfl | (simp; done) | (simp [*]; done), HL.out⟩
          · rw [if_neg c1856] at H
            have c1856b0 : (t1835 == 0) = false := beq_eq_false_iff_ne.mpr c1856
            have c1856b1 : (t1835 != 0) = true := bne_iff_ne.mpr c1856
            have hc1856 := hid c1856
            clear c1856
            simp only [Option.some.injEq, Prod.mk.injEq] at H
            obtain ⟨rfl, rfl, rfl, rfl, rfl, rfl, rfl⟩ := H
            go_enter Try.func36, Try.ntmps36
            have k1962 := True.intro
            have k1964 := True.intro
            have k1972 := True.intro
            go_wp2_with (first
              | ((with_reducible refine gate_d (N := 4) rfl ?_); obtain ⟨gb1823, hgb1823⟩ : ∃ g_, w.heap.size = g_ := ⟨_, rfl⟩; refine ag_alloc aT43 gb1823 hgb1823 rfl rfl ?_; intro w1960 hb_ hB_ hs_; have GEb1823 : Hid (w.heap.size ≤ gb1823) := hid (by have := HL.out.size; omega); replace HL := hid (HL.out.trans (hb_.mono GEb1823.out)); have BKb1823 := hid hB_; clear hb_ hB_ hs_ hgb1823)
              | ((with_reducible refine gate_d (N := 5) rfl ?_); obtain ⟨gb1824, hgb1824⟩ : ∃ g_, w1960.heap.size = g_ := ⟨_, rfl⟩; refine ag_alloc aT26 gb1824 hgb1824 rfl rfl ?_; intro w1961 hb_ hB_ hs_; have GEb1824 : Hid (w.heap.size ≤ gb1824) := hid (by have := HL.out.size; omega); have NBb1823_b1824 : Hid (gb1823 ≠ gb1824) := hid (by have := BKb1823.out.lt; omega); have NBb1824_b1823 : Hid (gb1824 ≠ gb1823) := hid (by have := NBb1823_b1824.out; omega); replace BKb1823 := hid (BKb1823.out.below hb_ (by rw [← hgb1824]; exact BKb1823.out.lt)); replace HL := hid (HL.out.trans (hb_.mono GEb1824.out)); have BKb1824 := hid hB_; clear hb_ hB_ hs_ hgb1824)
              | (go_at_call 48; clear k1962; refine (i_stip_words.calls k t1825 t1826 _ A1849.out).mono ?_; rintro e_ w1963 ⟨ut1825, ut1826, rfl, so_t1825, so_t1826, hb_⟩; replace so_t1825 := so_t1825.mono HL.out.size; replace so_t1826 := so_t1826.mono HL.out.size; have SWn_t1825 := hid so_t1825; clear so_t1825; have SWn_t1826 := hid so_t1826; clear so_t1826; replace BKb1823 := hid (BKb1823.out.below hb_ BKb1823.out.lt); replace BKb1824 := hid (BKb1824.out.below hb_ BKb1824.out.lt); replace HL := hid (HL.out.trans (hb_.mono HL.out.size)); clear hb_; have SWt1825 := SWn_t1825; clear SWn_t1825; have SWt1826 := SWn_t1826; clear SWn_t1826)
              | (go_at_call 12; clear k1964; refine (i_lex_OneOf.calls k a0 a1 (ut1825) t1825 t1827 t1828 t1829 _ SWt1825.out.sl A1850.out).mono ?_; rintro e_ w1965 ⟨rfl, hb_⟩; replace BKb1823 := hid (BKb1823.out.below hb_ BKb1823.out.lt); replace BKb1824 := hid (BKb1824.out.below hb_ BKb1824.out.lt); replace SWt1825 := hid (SWt1825.out.below hb_); replace SWt1826 := hid (SWt1826.out.below hb_); replace HL := hid (HL.out.trans (hb_.mono HL.out.size)); clear hb_)
              | ((with_reducible refine gate_d (N := 8) rfl ?_); obtain ⟨gb1830, hgb1830⟩ : ∃ g_, w1965.heap.size = g_ := ⟨_, rfl⟩; refine ag_alloc aT26 gb1830 hgb1830 rfl rfl ?_; intro w1966 hb_ hB_ hs_; have GEb1830 : Hid (w.heap.size ≤ gb1830) := hid (by have := HL.out.size; omega); have NBb1823_b1830 : Hid (gb1823 ≠ gb1830) := hid (by have := BKb1823.out.lt; omega); have NBb1830_b1823 : Hid (gb1830 ≠ gb1823) := hid (by have := NBb1823_b1830.out; omega); replace BKb1823 := hid (BKb1823.out.below hb_ (by rw [← hgb1830]; exact BKb1823.out.lt)); have NBb1824_b1830 : Hid (gb1824 ≠ gb1830) := hid (by have := BKb1824.out.lt; omega); have NBb1830_b1824 : Hid (gb1830 ≠ gb1824) := hid (by have := NBb1824_b1830.out; omega); replace BKb1824 := hid (BKb1824.out.below hb_ (by rw [← hgb1830]; exact BKb1824.out.lt)); replace SWt1825 := hid (SWt1825.out.below (by rw [hgb1830]; exact hb_)); replace SWt1826 := hid (SWt1826.out.below (by rw [hgb1830]; exact hb_)); replace HL := hid (HL.out.trans (hb_.mono GEb1830.out)); have BKb1830 := hid hB_; clear hb_ hB_ hs_ hgb1830)
              | ((with_reducible refine gate_s (t := 26) (p := 8) rfl ?_); refine ag_store aT26 gb1830 0 #[.int .i64 0, .int .i64 0, .int .i64 0] #[.int .i64 t1827, .int .i64 t1828, .int .i64 t1829] #[.int .i64 t1827, .int .i64 t1828, .int .i64 t1829] BKb1830.out rfl (by simp) (by intro v_ hv_; simp at hv_; rcases hv_ with rfl | rfl | rfl <;> first | rfl) rfl rfl _ _ rfl rfl rfl ?_; intro w1967 ho_ hB_; replace BKb1823 := hid (BKb1823.out.off ho_ NBb1823_b1830.out); replace BKb1824 := hid (BKb1824.out.off ho_ NBb1824_b1830.out); replace SWt1825 := hid (SWt1825.out.off ho_ BKb1830.out (by decide)); replace SWt1826 := hid (SWt1826.out.off ho_ BKb1830.out (by decide)); replace HL := hid (ho_.below HL.out GEb1830.out); replace BKb1830 := hid hB_; clear ho_ hB_)
              | ((with_reducible refine gate_d (N := 22) rfl ?_); refine ag_fix (.pointer (some ⟨gb1830, 2, none⟩)) (ex_field 26 2 (.pointer (some ⟨gb1830, 0, none⟩)) (.pointer (some ⟨gb1830, 2, none⟩)) (fa26_2_0 gb1830) _ rfl rfl) rfl ?_)
              | ((with_reducible refine gate_d (N := 23) rfl ?_); refine ag_fix (.int .i64 t1829) (ex_get sT24 gb1830 (2) (.int .i64 t1829) (#[.int .i64 t1827, .int .i64 t1828, .int .i64 t1829]) BKb1830.out rfl _ rfl rfl) rfl ?_)
              | ((with_reducible refine gate_d (N := 28) rfl ?_); refine ag_fix (.pointer (some ⟨gb1830, 1, none⟩)) (ex_field 26 1 (.pointer (some ⟨gb1830, 0, none⟩)) (.pointer (some ⟨gb1830, 1, none⟩)) (fa26_1_0 gb1830) _ rfl rfl) rfl ?_)
              | ((with_reducible refine gate_d (N := 29) rfl ?_); refine ag_fix (.int .i64 t1828) (ex_get sT3 gb1830 (1) (.int .i64 t1828) (#[.int .i64 t1827, .int .i64 t1828, .int .i64 t1829]) BKb1830.out rfl _ rfl rfl) rfl ?_)
              | ((with_reducible refine gate_d (N := 30) rfl ?_); obtain ⟨ad1831, c1968, hv1969, HCad1831_⟩ := SlN.get (l := t1826) (f := en43) en43_len SWt1826.out.sl (0, 0, 0, false) (i := t1828) hc1852.out hc1853.out; have HCad1831 := hid HCad1831_; clear HCad1831_; refine ag_fix (.pointer (some (ad1831.add (t1828.toNat * 4)))) (ex_satN _ _ t1828 _ _ hv1969 hc1852.out hc1853.out us74 aT43.size _ _ rfl rfl rfl) rfl ?_; clear hv1969)
              | ((with_reducible refine gate_d (N := 31) rfl ?_); refine ag_fix (.agg #[.int .i64 ((nt t1826 t1828.toNat (0, 0, 0, false)).1), .int .i64 ((nt t1826 t1828.toNat (0, 0, 0, false)).2.1), .int .i64 ((nt t1826 t1828.toNat (0, 0, 0, false)).2.2.1), .bool ((nt t1826 t1828.toNat (0, 0, 0, false)).2.2.2)]) (ex_ldN aT43 _ (en43 (nt t1826 t1828.toNat (0, 0, 0, false))) rfl HCad1831.out _ rfl rfl) rfl ?_)
              | ((with_reducible refine gate_d (N := 9) rfl ?_); obtain ⟨gb1832, hgb1832⟩ : ∃ g_, w1967.heap.size = g_ := ⟨_, rfl⟩; refine ag_alloc aT43 gb1832 hgb1832 rfl rfl ?_; intro w1970 hb_ hB_ hs_; have GEb1832 : Hid (w.heap.size ≤ gb1832) := hid (by have := HL.out.size; omega); have NBb1823_b1832 : Hid (gb1823 ≠ gb1832) := hid (by have := BKb1823.out.lt; omega); have NBb1832_b1823 : Hid (gb1832 ≠ gb1823) := hid (by have := NBb1823_b1832.out; omega); replace BKb1823 := hid (BKb1823.out.below hb_ (by rw [← hgb1832]; exact BKb1823.out.lt)); have NBb1824_b1832 : Hid (gb1824 ≠ gb1832) := hid (by have := BKb1824.out.lt; omega); have NBb1832_b1824 : Hid (gb1832 ≠ gb1824) := hid (by have := NBb1824_b1832.out; omega); replace BKb1824 := hid (BKb1824.out.below hb_ (by rw [← hgb1832]; exact BKb1824.out.lt)); have NBb1830_b1832 : Hid (gb1830 ≠ gb1832) := hid (by have := BKb1830.out.lt; omega); have NBb1832_b1830 : Hid (gb1832 ≠ gb1830) := hid (by have := NBb1830_b1832.out; omega); replace BKb1830 := hid (BKb1830.out.below hb_ (by rw [← hgb1832]; exact BKb1830.out.lt)); replace SWt1825 := hid (SWt1825.out.below (by rw [hgb1832]; exact hb_)); replace SWt1826 := hid (SWt1826.out.below (by rw [hgb1832]; exact hb_)); replace HL := hid (HL.out.trans (hb_.mono GEb1832.out)); have BKb1832 := hid hB_; clear hb_ hB_ hs_ hgb1832)
              | ((with_reducible refine gate_s (t := 43) (p := 9) rfl ?_); refine ag_store aT43 gb1832 0 #[.int .i64 0, .int .i64 0, .int .i64 0, .bool false] #[.int .i64 ((nt t1826 t1828.toNat (0, 0, 0, false)).1), .int .i64 ((nt t1826 t1828.toNat (0, 0, 0, false)).2.1), .int .i64 ((nt t1826 t1828.toNat (0, 0, 0, false)).2.2.1), .bool ((nt t1826 t1828.toNat (0, 0, 0, false)).2.2.2)] #[.int .i64 ((nt t1826 t1828.toNat (0, 0, 0, false)).1), .int .i64 ((nt t1826 t1828.toNat (0, 0, 0, false)).2.1), .int .i64 ((nt t1826 t1828.toNat (0, 0, 0, false)).2.2.1), .bool ((nt t1826 t1828.toNat (0, 0, 0, false)).2.2.2)] BKb1832.out rfl (by simp) (by intro v_ hv_; simp at hv_; rcases hv_ with rfl | rfl | rfl | rfl <;> first | rfl) rfl rfl _ _ rfl rfl rfl ?_; intro w1971 ho_ hB_; replace BKb1823 := hid (BKb1823.out.off ho_ NBb1823_b1832.out); replace BKb1824 := hid (BKb1824.out.off ho_ NBb1824_b1832.out); replace BKb1830 := hid (BKb1830.out.off ho_ NBb1830_b1832.out); clear SWt1826; replace SWt1825 := hid (SWt1825.out.off ho_ BKb1832.out (by decide)); replace HL := hid (ho_.below HL.out GEb1832.out); replace BKb1832 := hid hB_; clear ho_ hB_)
              | ((with_reducible refine gate_d (N := 32) rfl ?_); refine ag_fix (.pointer (some ⟨gb1832, 0, none⟩)) (ex_field 43 0 (.pointer (some ⟨gb1832, 0, none⟩)) (.pointer (some ⟨gb1832, 0, none⟩)) (fa43_0_0 gb1832) _ rfl rfl) rfl ?_)
              | ((with_reducible refine gate_d (N := 33) rfl ?_); refine ag_fix (.int .i64 ((nt t1826 t1828.toNat (0, 0, 0, false)).1)) (ex_get sT3 gb1832 (0) (.int .i64 ((nt t1826 t1828.toNat (0, 0, 0, false)).1)) (#[.int .i64 ((nt t1826 t1828.toNat (0, 0, 0, false)).1), .int .i64 ((nt t1826 t1828.toNat (0, 0, 0, false)).2.1), .int .i64 ((nt t1826 t1828.toNat (0, 0, 0, false)).2.2.1), .bool ((nt t1826 t1828.toNat (0, 0, 0, false)).2.2.2)]) BKb1832.out rfl _ rfl rfl) rfl ?_)
              | ((with_reducible refine gate_d (N := 36) rfl ?_); refine ag_fix (.pointer (some ⟨gb1830, 0, none⟩)) (ex_field 26 0 (.pointer (some ⟨gb1830, 0, none⟩)) (.pointer (some ⟨gb1830, 0, none⟩)) (fa26_0_0 gb1830) _ rfl rfl) rfl ?_)
              | ((with_reducible refine gate_d (N := 37) rfl ?_); refine ag_fix (.int .i64 t1827) (ex_get sT3 gb1830 (0) (.int .i64 t1827) (#[.int .i64 t1827, .int .i64 t1828, .int .i64 t1829]) BKb1830.out rfl _ rfl rfl) rfl ?_)
              | (go_at_call 14; clear k1972; refine (i_lex_Number.calls k a0 t1827 0 64 t1833 t1834 t1835 _ A1855.out).mono ?_; rintro e_ w1973 ⟨rfl, hb_⟩; replace BKb1823 := hid (BKb1823.out.below hb_ BKb1823.out.lt); replace BKb1824 := hid (BKb1824.out.below hb_ BKb1824.out.lt); replace BKb1830 := hid (BKb1830.out.below hb_ BKb1830.out.lt); replace BKb1832 := hid (BKb1832.out.below hb_ BKb1832.out.lt); replace SWt1825 := hid (SWt1825.out.below hb_); replace HL := hid (HL.out.trans (hb_.mono HL.out.size)); clear hb_)
              | ((with_reducible refine gate_d (N := 11) rfl ?_); obtain ⟨gb1836, hgb1836⟩ : ∃ g_, w1973.heap.size = g_ := ⟨_, rfl⟩; refine ag_alloc aT26 gb1836 hgb1836 rfl rfl ?_; intro w1974 hb_ hB_ hs_; have GEb1836 : Hid (w.heap.size ≤ gb1836) := hid (by have := HL.out.size; omega); have NBb1823_b1836 : Hid (gb1823 ≠ gb1836) := hid (by have := BKb1823.out.lt; omega); have NBb1836_b1823 : Hid (gb1836 ≠ gb1823) := hid (by have := NBb1823_b1836.out; omega); replace BKb1823 := hid (BKb1823.out.below hb_ (by rw [← hgb1836]; exact BKb1823.out.lt)); have NBb1824_b1836 : Hid (gb1824 ≠ gb1836) := hid (by have := BKb1824.out.lt; omega); have NBb1836_b1824 : Hid (gb1836 ≠ gb1824) := hid (by have := NBb1824_b1836.out; omega); replace BKb1824 := hid (BKb1824.out.below hb_ (by rw [← hgb1836]; exact BKb1824.out.lt)); have NBb1830_b1836 : Hid (gb1830 ≠ gb1836) := hid (by have := BKb1830.out.lt; omega); have NBb1836_b1830 : Hid (gb1836 ≠ gb1830) := hid (by have := NBb1830_b1836.out; omega); replace BKb1830 := hid (BKb1830.out.below hb_ (by rw [← hgb1836]; exact BKb1830.out.lt)); have NBb1832_b1836 : Hid (gb1832 ≠ gb1836) := hid (by have := BKb1832.out.lt; omega); have NBb1836_b1832 : Hid (gb1836 ≠ gb1832) := hid (by have := NBb1832_b1836.out; omega); replace BKb1832 := hid (BKb1832.out.below hb_ (by rw [← hgb1836]; exact BKb1832.out.lt)); replace SWt1825 := hid (SWt1825.out.below (by rw [hgb1836]; exact hb_)); replace HL := hid (HL.out.trans (hb_.mono GEb1836.out)); have BKb1836 := hid hB_; clear hb_ hB_ hs_ hgb1836)
              | ((with_reducible refine gate_s (t := 26) (p := 11) rfl ?_); refine ag_store aT26 gb1836 0 #[.int .i64 0, .int .i64 0, .int .i64 0] #[.int .i64 t1833, .int .i64 t1834, .int .i64 t1835] #[.int .i64 t1833, .int .i64 t1834, .int .i64 t1835] BKb1836.out rfl (by simp) (by intro v_ hv_; simp at hv_; rcases hv_ with rfl | rfl | rfl <;> first | rfl) rfl rfl _ _ rfl rfl rfl ?_; intro w1975 ho_ hB_; replace BKb1823 := hid (BKb1823.out.off ho_ NBb1823_b1836.out); replace BKb1824 := hid (BKb1824.out.off ho_ NBb1824_b1836.out); replace BKb1830 := hid (BKb1830.out.off ho_ NBb1830_b1836.out); replace BKb1832 := hid (BKb1832.out.off ho_ NBb1832_b1836.out); replace SWt1825 := hid (SWt1825.out.off ho_ BKb1836.out (by decide)); replace HL := hid (ho_.below HL.out GEb1836.out); replace BKb1836 := hid hB_; clear ho_ hB_)
              | ((with_reducible refine gate_d (N := 40) rfl ?_); refine ag_fix (.pointer (some ⟨gb1836, 2, none⟩)) (ex_field 26 2 (.pointer (some ⟨gb1836, 0, none⟩)) (.pointer (some ⟨gb1836, 2, none⟩)) (fa26_2_0 gb1836) _ rfl rfl) rfl ?_)
              | ((with_reducible refine gate_d (N := 41) rfl ?_); refine ag_fix (.int .i64 t1835) (ex_get sT24 gb1836 (2) (.int .i64 t1835) (#[.int .i64 t1833, .int .i64 t1834, .int .i64 t1835]) BKb1836.out rfl _ rfl rfl) rfl ?_))
            (try simp only [Act.put, List.setIfInBounds_toArray, List.set_cons_zero, List.set_cons_succ])
            have WR64 := i64_w
            have WR32 := i32_w
            refine sq_region (fun w'_ => Below w.heap.size w w'_ ∧ Blk w'_ gb1830 26 #[.int .i64 t1827, .int .i64 t1828, .int .i64 t1829] ∧ Blk w'_ gb1832 43 #[.int .i64 ((nt t1826 t1828.toNat (0, 0, 0, false)).1), .int .i64 ((nt t1826 t1828.toNat (0, 0, 0, false)).2.1), .int .i64 ((nt t1826 t1828.toNat (0, 0, 0, false)).2.2.1), .bool ((nt t1826 t1828.toNat (0, 0, 0, false)).2.2.2)] ∧ Blk w'_ gb1836 26 #[.int .i64 t1833, .int .i64 t1834, .int .i64 t1835] ∧ Own w'_ w.heap.size 9 (ut1825) (t1825.map Value.string) ∧ True) [3] [(0, true), (1, true), (2, false), (3, false)] (by kernel_rfl) (by kernel_rfl) (by kernel_rfl) rfl ?_
            intro w1976 hb_
            replace BKb1823 := hid (BKb1823.out.below hb_ BKb1823.out.lt)
            replace BKb1824 := hid (BKb1824.out.below hb_ BKb1824.out.lt)
            replace BKb1830 := hid (BKb1830.out.below hb_ BKb1830.out.lt)
            replace BKb1832 := hid (BKb1832.out.below hb_ BKb1832.out.lt)
            replace BKb1836 := hid (BKb1836.out.below hb_ BKb1836.out.lt)
            replace SWt1825 := hid (SWt1825.out.below hb_)
            replace HL := hid (HL.out.trans (hb_.mono HL.out.size))
            clear hb_
            refine sq_take (.agg #[.int .i64 0, .int .i64 0, .int .i64 0, .bool false]) ⟨HL.out, BKb1830.out, BKb1832.out, BKb1836.out, SWt1825.out, trivial⟩ rfl (fun w'_ hS_ => ex_build (.agg #[.int .i64 0, .int .i64 0, .int .i64 0, .bool false]) _ rfl (by intro ww_; kernel_rfl)) rfl rfl ?_
            intro ts_ ht_; simp only [List.setIfInBounds_toArray, List.set_cons_zero, List.set_cons_succ] at ht_; subst ht_
            refine sq_take (.agg #[.int .i64 t1833, .int .i64 t1834, .int .i64 t1835]) ⟨HL.out, BKb1830.out, BKb1832.out, BKb1836.out, SWt1825.out, trivial⟩ rfl (fun w'_ hS_ => ex_load aT26 gb1836 0 #[.int .i64 t1833, .int .i64 t1834, .int .i64 t1835] #[.int .i64 t1833, .int .i64 t1834, .int .i64 t1835] hS_.2.2.2.1 (by simp) rfl _ rfl rfl) rfl rfl ?_
            intro ts_ ht_; simp only [List.setIfInBounds_toArray, List.set_cons_zero, List.set_cons_succ] at ht_; subst ht_
            refine sq_act rfl (fun Q'_ hQ_ => ?_)
            (with_reducible refine gate_s (t := 43) (p := 4) rfl ?_)
            refine ag_store aT43 gb1823 0 #[.int .i64 0, .int .i64 0, .int .i64 0, .bool false] #[.int .i64 0, .int .i64 0, .int .i64 0, .bool false] #[.int .i64 0, .int .i64 0, .int .i64 0, .bool false] BKb1823.out rfl (by simp) (by intro v_ hv_; simp at hv_; rcases hv_ with rfl | rfl | rfl | rfl <;> first | rfl) rfl rfl _ _ rfl rfl rfl ?_
            intro w1977 ho_ hB_
            replace BKb1824 := hid (BKb1824.out.off ho_ NBb1824_b1823.out)
            replace BKb1830 := hid (BKb1830.out.off ho_ NBb1830_b1823.out)
            replace BKb1832 := hid (BKb1832.out.off ho_ NBb1832_b1823.out)
            replace BKb1836 := hid (BKb1836.out.off ho_ NBb1836_b1823.out)
            replace SWt1825 := hid (SWt1825.out.off ho_ BKb1823.out (by decide))
            replace HL := hid (ho_.below HL.out GEb1823.out)
            replace BKb1823 := hid hB_
            clear ho_ hB_
            refine act_end ?_
            refine hQ_ _ _ (fun _ => ⟨HL.out, BKb1830.out, BKb1832.out, BKb1836.out, SWt1825.out, trivial⟩) ?_
            clear hQ_ Q'_
            simp only [Act.put]
            refine sq_act rfl (fun Q'_ hQ_ => ?_)
            (with_reducible refine gate_s (t := 26) (p := 5) rfl ?_)
            refine ag_store aT26 gb1824 0 #[.int .i64 0, .int .i64 0, .int .i64 0] #[.int .i64 t1833, .int .i64 t1834, .int .i64 t1835] #[.int .i64 t1833, .int .i64 t1834, .int .i64 t1835] BKb1824.out rfl (by simp) (by intro v_ hv_; simp at hv_; rcases hv_ with rfl | rfl | rfl <;> first | rfl) rfl rfl _ _ rfl rfl rfl ?_
            intro w1978 ho_ hB_
            replace BKb1823 := hid (BKb1823.out.off ho_ NBb1823_b1824.out)
            replace BKb1830 := hid (BKb1830.out.off ho_ NBb1830_b1824.out)
            replace BKb1832 := hid (BKb1832.out.off ho_ NBb1832_b1824.out)
            replace BKb1836 := hid (BKb1836.out.off ho_ NBb1836_b1824.out)
            replace SWt1825 := hid (SWt1825.out.off ho_ BKb1824.out (by decide))
            replace HL := hid (ho_.below HL.out GEb1824.out)
            replace BKb1824 := hid hB_
            clear ho_ hB_
            refine act_end ?_
            refine hQ_ _ _ (fun h_ => absurd h_ (by decide)) ?_
            clear hQ_ Q'_
            simp only [Act.put]
            refine sq_end ?_
            clear WR64 WR32
            go_wp2_with fail
            (try simp only [Act.put, List.setIfInBounds_toArray, List.set_cons_zero, List.set_cons_succ])
            refine bodyPost_ret (v := .tuple #[.agg #[.int .i64 0, .int .i64 0, .int .i64 0, .bool false], .agg #[.int .i64 t1833, .int .i64 t1834, .int .i64 t1835]]) (res_cc aT43 aT26 rfl _ gb1823 gb1824 #[.int .i64 0, .int .i64 0, .int .i64 0, .bool false] #[.int .i64 t1833, .int .i64 t1834, .int .i64 t1835] BKb1823.out rfl rfl BKb1824.out rfl rfl) rfl ?_
            exact ⟨by first | rfl | (simp; done) | (simp [*]; done), HL.out⟩
        · rw [if_neg c1854] at H
          have c1854b0 : (((nt t1826 t1828.toNat (0, 0, 0, false)).1) == 5) = false := beq_eq_false_iff_ne.mpr c1854
          have c1854b1 : (((nt t1826 t1828.toNat (0, 0, 0, false)).1) != 5) = true := bne_iff_ne.mpr c1854
          have hc1854 := hid c1854
          clear c1854
          replace H := Option.bind_eq_some_iff.mp H
          obtain ⟨⟨t1845, t1846, t1847⟩, A1979_, H⟩ := H
          replace H : (if t1847 = 0 then (some ((nt t1826 t1828.toNat (0, 0, 0, false)).1, (nt t1826 t1828.toNat (0, 0, 0, false)).2.1, t1846, (nt t1826 t1828.toNat (0, 0, 0, false)).2.2.2, t1845, 0, 0)) else (some (0, 0, 0, false, t1845, t1846, t1847))) = some (r1, r2, r3, r4, r5, r6, r7) := H
          have A1979 := hid A1979_
          clear A1979_
          by_cases c1980 : t1847 = 0
          · rw [if_pos c1980] at H
            have c1980b0 : (t1847 == 0) = true := beq_iff_eq.mpr c1980
            have c1980b1 : (t1847 != 0) = false := bne_eq_false_iff_eq.mpr c1980
            have hc1980 := hid c1980
            clear c1980
            simp only [Option.some.injEq, Prod.mk.injEq] at H
            obtain ⟨rfl, rfl, rfl, rfl, rfl, rfl, rfl⟩ := H
            go_enter Try.func36, Try.ntmps36
            have k1983 := True.intro
            have k1985 := True.intro
            have k1993 := True.intro
            go_wp2_with (first
              | ((with_reducible refine gate_d (N := 4) rfl ?_); obtain ⟨gb1823, hgb1823⟩ : ∃ g_, w.heap.size = g_ := ⟨_, rfl⟩; refine ag_alloc aT43 gb1823 hgb1823 rfl rfl ?_; intro w1981 hb_ hB_ hs_; have GEb1823 : Hid (w.heap.size ≤ gb1823) := hid (by have := HL.out.size; omega); replace HL := hid (HL.out.trans (hb_.mono GEb1823.out)); have BKb1823 := hid hB_; clear hb_ hB_ hs_ hgb1823)
              | ((with_reducible refine gate_d (N := 5) rfl ?_); obtain ⟨gb1824, hgb1824⟩ : ∃ g_, w1981.heap.size = g_ := ⟨_, rfl⟩; refine ag_alloc aT26 gb1824 hgb1824 rfl rfl ?_; intro w1982 hb_ hB_ hs_; have GEb1824 : Hid (w.heap.size ≤ gb1824) := hid (by have := HL.out.size; omega); have NBb1823_b1824 : Hid (gb1823 ≠ gb1824) := hid (by have := BKb1823.out.lt; omega); have NBb1824_b1823 : Hid (gb1824 ≠ gb1823) := hid (by have := NBb1823_b1824.out; omega); replace BKb1823 := hid (BKb1823.out.below hb_ (by rw [← hgb1824]; exact BKb1823.out.lt)); replace HL := hid (HL.out.trans (hb_.mono GEb1824.out)); have BKb1824 := hid hB_; clear hb_ hB_ hs_ hgb1824)
              | (go_at_call 48; clear k1983; refine (i_stip_words.calls k t1825 t1826 _ A1849.out).mono ?_; rintro e_ w1984 ⟨ut1825, ut1826, rfl, so_t1825, so_t1826, hb_⟩; replace so_t1825 := so_t1825.mono HL.out.size; replace so_t1826 := so_t1826.mono HL.out.size; have SWn_t1825 := hid so_t1825; clear so_t1825; have SWn_t1826 := hid so_t1826; clear so_t1826; replace BKb1823 := hid (BKb1823.out.below hb_ BKb1823.out.lt); replace BKb1824 := hid (BKb1824.out.below hb_ BKb1824.out.lt); replace HL := hid (HL.out.trans (hb_.mono HL.out.size)); clear hb_; have SWt1825 := SWn_t1825; clear SWn_t1825; have SWt1826 := SWn_t1826; clear SWn_t1826)
              | (go_at_call 12; clear k1985; refine (i_lex_OneOf.calls k a0 a1 (ut1825) t1825 t1827 t1828 t1829 _ SWt1825.out.sl A1850.out).mono ?_; rintro e_ w1986 ⟨rfl, hb_⟩; replace BKb1823 := hid (BKb1823.out.below hb_ BKb1823.out.lt); replace BKb1824 := hid (BKb1824.out.below hb_ BKb1824.out.lt); replace SWt1825 := hid (SWt1825.out.below hb_); replace SWt1826 := hid (SWt1826.out.below hb_); replace HL := hid (HL.out.trans (hb_.mono HL.out.size)); clear hb_)
              | ((with_reducible refine gate_d (N := 8) rfl ?_); obtain ⟨gb1830, hgb1830⟩ : ∃ g_, w1986.heap.size = g_ := ⟨_, rfl⟩; refine ag_alloc aT26 gb1830 hgb1830 rfl rfl ?_; intro w1987 hb_ hB_ hs_; have GEb1830 : Hid (w.heap.size ≤ gb1830) := hid (by have := HL.out.size; omega); have NBb1823_b1830 : Hid (gb1823 ≠ gb1830) := hid (by have := BKb1823.out.lt; omega); have NBb1830_b1823 : Hid (gb1830 ≠ gb1823) := hid (by have := NBb1823_b1830.out; omega); replace BKb1823 := hid (BKb1823.out.below hb_ (by rw [← hgb1830]; exact BKb1823.out.lt)); have NBb1824_b1830 : Hid (gb1824 ≠ gb1830) := hid (by have := BKb1824.out.lt; omega); have NBb1830_b1824 : Hid (gb1830 ≠ gb1824) := hid (by have := NBb1824_b1830.out; omega); replace BKb1824 := hid (BKb1824.out.below hb_ (by rw [← hgb1830]; exact BKb1824.out.lt)); replace SWt1825 := hid (SWt1825.out.below (by rw [hgb1830]; exact hb_)); replace SWt1826 := hid (SWt1826.out.below (by rw [hgb1830]; exact hb_)); replace HL := hid (HL.out.trans (hb_.mono GEb1830.out)); have BKb1830 := hid hB_; clear hb_ hB_ hs_ hgb1830)
              | ((with_reducible refine gate_s (t := 26) (p := 8) rfl ?_); refine ag_store aT26 gb1830 0 #[.int .i64 0, .int .i64 0, .int .i64 0] #[.int .i64 t1827, .int .i64 t1828, .int .i64 t1829] #[.int .i64 t1827, .int .i64 t1828, .int .i64 t1829] BKb1830.out rfl (by simp) (by intro v_ hv_; simp at hv_; rcases hv_ with rfl | rfl | rfl <;> first | rfl) rfl rfl _ _ rfl rfl rfl ?_; intro w1988 ho_ hB_; replace BKb1823 := hid (BKb1823.out.off ho_ NBb1823_b1830.out); replace BKb1824 := hid (BKb1824.out.off ho_ NBb1824_b1830.out); replace SWt1825 := hid (SWt1825.out.off ho_ BKb1830.out (by decide)); replace SWt1826 := hid (SWt1826.out.off ho_ BKb1830.out (by decide)); replace HL := hid (ho_.below HL.out GEb1830.out); replace BKb1830 := hid hB_; clear ho_ hB_)
              | ((with_reducible refine gate_d (N := 22) rfl ?_); refine ag_fix (.pointer (some ⟨gb1830, 2, none⟩)) (ex_field 26 2 (.pointer (some ⟨gb1830, 0, none⟩)) (.pointer (some ⟨gb1830, 2, none⟩)) (fa26_2_0 gb1830) _ rfl rfl) rfl ?_)
              | ((with_reducible refine gate_d (N := 23) rfl ?_); refine ag_fix (.int .i64 t1829) (ex_get sT24 gb1830 (2) (.int .i64 t1829) (#[.int .i64 t1827, .int .i64 t1828, .int .i64 t1829]) BKb1830.out rfl _ rfl rfl) rfl ?_)
              | ((with_reducible refine gate_d (N := 28) rfl ?_); refine ag_fix (.pointer (some ⟨gb1830, 1, none⟩)) (ex_field 26 1 (.pointer (some ⟨gb1830, 0, none⟩)) (.pointer (some ⟨gb1830, 1, none⟩)) (fa26_1_0 gb1830) _ rfl rfl) rfl ?_)
              | ((with_reducible refine gate_d (N := 29) rfl ?_); refine ag_fix (.int .i64 t1828) (ex_get sT3 gb1830 (1) (.int .i64 t1828) (#[.int .i64 t1827, .int .i64 t1828, .int .i64 t1829]) BKb1830.out rfl _ rfl rfl) rfl ?_)
              | ((with_reducible refine gate_d (N := 30) rfl ?_); obtain ⟨ad1831, c1989, hv1990, HCad1831_⟩ := SlN.get (l := t1826) (f := en43) en43_len SWt1826.out.sl (0, 0, 0, false) (i := t1828) hc1852.out hc1853.out; have HCad1831 := hid HCad1831_; clear HCad1831_; refine ag_fix (.pointer (some (ad1831.add (t1828.toNat * 4)))) (ex_satN _ _ t1828 _ _ hv1990 hc1852.out hc1853.out us74 aT43.size _ _ rfl rfl rfl) rfl ?_; clear hv1990)
              | ((with_reducible refine gate_d (N := 31) rfl ?_); refine ag_fix (.agg #[.int .i64 ((nt t1826 t1828.toNat (0, 0, 0, false)).1), .int .i64 ((nt t1826 t1828.toNat (0, 0, 0, false)).2.1), .int .i64 ((nt t1826 t1828.toNat (0, 0, 0, false)).2.2.1), .bool ((nt t1826 t1828.toNat (0, 0, 0, false)).2.2.2)]) (ex_ldN aT43 _ (en43 (nt t1826 t1828.toNat (0, 0, 0, false))) rfl HCad1831.out _ rfl rfl) rfl ?_)
              | ((with_reducible refine gate_d (N := 9) rfl ?_); obtain ⟨gb1832, hgb1832⟩ : ∃ g_, w1988.heap.size = g_ := ⟨_, rfl⟩; refine ag_alloc aT43 gb1832 hgb1832 rfl rfl ?_; intro w1991 hb_ hB_ hs_; have GEb1832 : Hid (w.heap.size ≤ gb1832) := hid (by have := HL.out.size; omega); have NBb1823_b1832 : Hid (gb1823 ≠ gb1832) := hid (by have := BKb1823.out.lt; omega); have NBb1832_b1823 : Hid (gb1832 ≠ gb1823) := hid (by have := NBb1823_b1832.out; omega); replace BKb1823 := hid (BKb1823.out.below hb_ (by rw [← hgb1832]; exact BKb1823.out.lt)); have NBb1824_b1832 : Hid (gb1824 ≠ gb1832) := hid (by have := BKb1824.out.lt; omega); have NBb1832_b1824 : Hid (gb1832 ≠ gb1824) := hid (by have := NBb1824_b1832.out; omega); replace BKb1824 := hid (BKb1824.out.below hb_ (by rw [← hgb1832]; exact BKb1824.out.lt)); have NBb1830_b1832 : Hid (gb1830 ≠ gb1832) := hid (by have := BKb1830.out.lt; omega); have NBb1832_b1830 : Hid (gb1832 ≠ gb1830) := hid (by have := NBb1830_b1832.out; omega); replace BKb1830 := hid (BKb1830.out.below hb_ (by rw [← hgb1832]; exact BKb1830.out.lt)); replace SWt1825 := hid (SWt1825.out.below (by rw [hgb1832]; exact hb_)); replace SWt1826 := hid (SWt1826.out.below (by rw [hgb1832]; exact hb_)); replace HL := hid (HL.out.trans (hb_.mono GEb1832.out)); have BKb1832 := hid hB_; clear hb_ hB_ hs_ hgb1832)
              | ((with_reducible refine gate_s (t := 43) (p := 9) rfl ?_); refine ag_store aT43 gb1832 0 #[.int .i64 0, .int .i64 0, .int .i64 0, .bool false] #[.int .i64 ((nt t1826 t1828.toNat (0, 0, 0, false)).1), .int .i64 ((nt t1826 t1828.toNat (0, 0, 0, false)).2.1), .int .i64 ((nt t1826 t1828.toNat (0, 0, 0, false)).2.2.1), .bool ((nt t1826 t1828.toNat (0, 0, 0, false)).2.2.2)] #[.int .i64 ((nt t1826 t1828.toNat (0, 0, 0, false)).1), .int .i64 ((nt t1826 t1828.toNat (0, 0, 0, false)).2.1), .int .i64 ((nt t1826 t1828.toNat (0, 0, 0, false)).2.2.1), .bool ((nt t1826 t1828.toNat (0, 0, 0, false)).2.2.2)] BKb1832.out rfl (by simp) (by intro v_ hv_; simp at hv_; rcases hv_ with rfl | rfl | rfl | rfl <;> first | rfl) rfl rfl _ _ rfl rfl rfl ?_; intro w1992 ho_ hB_; replace BKb1823 := hid (BKb1823.out.off ho_ NBb1823_b1832.out); replace BKb1824 := hid (BKb1824.out.off ho_ NBb1824_b1832.out); replace BKb1830 := hid (BKb1830.out.off ho_ NBb1830_b1832.out); clear SWt1826; replace SWt1825 := hid (SWt1825.out.off ho_ BKb1832.out (by decide)); replace HL := hid (ho_.below HL.out GEb1832.out); replace BKb1832 := hid hB_; clear ho_ hB_)
              | ((with_reducible refine gate_d (N := 32) rfl ?_); refine ag_fix (.pointer (some ⟨gb1832, 0, none⟩)) (ex_field 43 0 (.pointer (some ⟨gb1832, 0, none⟩)) (.pointer (some ⟨gb1832, 0, none⟩)) (fa43_0_0 gb1832) _ rfl rfl) rfl ?_)
              | ((with_reducible refine gate_d (N := 33) rfl ?_); refine ag_fix (.int .i64 ((nt t1826 t1828.toNat (0, 0, 0, false)).1)) (ex_get sT3 gb1832 (0) (.int .i64 ((nt t1826 t1828.toNat (0, 0, 0, false)).1)) (#[.int .i64 ((nt t1826 t1828.toNat (0, 0, 0, false)).1), .int .i64 ((nt t1826 t1828.toNat (0, 0, 0, false)).2.1), .int .i64 ((nt t1826 t1828.toNat (0, 0, 0, false)).2.2.1), .bool ((nt t1826 t1828.toNat (0, 0, 0, false)).2.2.2)]) BKb1832.out rfl _ rfl rfl) rfl ?_)
              | ((with_reducible refine gate_d (N := 36) rfl ?_); refine ag_fix (.pointer (some ⟨gb1830, 0, none⟩)) (ex_field 26 0 (.pointer (some ⟨gb1830, 0, none⟩)) (.pointer (some ⟨gb1830, 0, none⟩)) (fa26_0_0 gb1830) _ rfl rfl) rfl ?_)
              | ((with_reducible refine gate_d (N := 37) rfl ?_); refine ag_fix (.int .i64 t1827) (ex_get sT3 gb1830 (0) (.int .i64 t1827) (#[.int .i64 t1827, .int .i64 t1828, .int .i64 t1829]) BKb1830.out rfl _ rfl rfl) rfl ?_)
              | (go_at_call 14; clear k1993; refine (i_lex_Number.calls k a0 t1827 1 64 t1845 t1846 t1847 _ A1979.out).mono ?_; rintro e_ w1994 ⟨rfl, hb_⟩; replace BKb1823 := hid (BKb1823.out.below hb_ BKb1823.out.lt); replace BKb1824 := hid (BKb1824.out.below hb_ BKb1824.out.lt); replace BKb1830 := hid (BKb1830.out.below hb_ BKb1830.out.lt); replace BKb1832 := hid (BKb1832.out.below hb_ BKb1832.out.lt); replace SWt1825 := hid (SWt1825.out.below hb_); replace HL := hid (HL.out.trans (hb_.mono HL.out.size)); clear hb_)
              | ((with_reducible refine gate_d (N := 11) rfl ?_); obtain ⟨gb1848, hgb1848⟩ : ∃ g_, w1994.heap.size = g_ := ⟨_, rfl⟩; refine ag_alloc aT26 gb1848 hgb1848 rfl rfl ?_; intro w1995 hb_ hB_ hs_; have GEb1848 : Hid (w.heap.size ≤ gb1848) := hid (by have := HL.out.size; omega); have NBb1823_b1848 : Hid (gb1823 ≠ gb1848) := hid (by have := BKb1823.out.lt; omega); have NBb1848_b1823 : Hid (gb1848 ≠ gb1823) := hid (by have := NBb1823_b1848.out; omega); replace BKb1823 := hid (BKb1823.out.below hb_ (by rw [← hgb1848]; exact BKb1823.out.lt)); have NBb1824_b1848 : Hid (gb1824 ≠ gb1848) := hid (by have := BKb1824.out.lt; omega); have NBb1848_b1824 : Hid (gb1848 ≠ gb1824) := hid (by have := NBb1824_b1848.out; omega); replace BKb1824 := hid (BKb1824.out.below hb_ (by rw [← hgb1848]; exact BKb1824.out.lt)); have NBb1830_b1848 : Hid (gb1830 ≠ gb1848) := hid (by have := BKb1830.out.lt; omega); have NBb1848_b1830 : Hid (gb1848 ≠ gb1830) := hid (by have := NBb1830_b1848.out; omega); replace BKb1830 := hid (BKb1830.out.below hb_ (by rw [← hgb1848]; exact BKb1830.out.lt)); have NBb1832_b1848 : Hid (gb1832 ≠ gb1848) := hid (by have := BKb1832.out.lt; omega); have NBb1848_b1832 : Hid (gb1848 ≠ gb1832) := hid (by have := NBb1832_b1848.out; omega); replace BKb1832 := hid (BKb1832.out.below hb_ (by rw [← hgb1848]; exact BKb1832.out.lt)); replace SWt1825 := hid (SWt1825.out.below (by rw [hgb1848]; exact hb_)); replace HL := hid (HL.out.trans (hb_.mono GEb1848.out)); have BKb1848 := hid hB_; clear hb_ hB_ hs_ hgb1848)
              | ((with_reducible refine gate_s (t := 26) (p := 11) rfl ?_); refine ag_store aT26 gb1848 0 #[.int .i64 0, .int .i64 0, .int .i64 0] #[.int .i64 t1845, .int .i64 t1846, .int .i64 t1847] #[.int .i64 t1845, .int .i64 t1846, .int .i64 t1847] BKb1848.out rfl (by simp) (by intro v_ hv_; simp at hv_; rcases hv_ with rfl | rfl | rfl <;> first | rfl) rfl rfl _ _ rfl rfl rfl ?_; intro w1996 ho_ hB_; replace BKb1823 := hid (BKb1823.out.off ho_ NBb1823_b1848.out); replace BKb1824 := hid (BKb1824.out.off ho_ NBb1824_b1848.out); replace BKb1830 := hid (BKb1830.out.off ho_ NBb1830_b1848.out); replace BKb1832 := hid (BKb1832.out.off ho_ NBb1832_b1848.out); replace SWt1825 := hid (SWt1825.out.off ho_ BKb1848.out (by decide)); replace HL := hid (ho_.below HL.out GEb1848.out); replace BKb1848 := hid hB_; clear ho_ hB_)
              | ((with_reducible refine gate_d (N := 40) rfl ?_); refine ag_fix (.pointer (some ⟨gb1848, 2, none⟩)) (ex_field 26 2 (.pointer (some ⟨gb1848, 0, none⟩)) (.pointer (some ⟨gb1848, 2, none⟩)) (fa26_2_0 gb1848) _ rfl rfl) rfl ?_)
              | ((with_reducible refine gate_d (N := 41) rfl ?_); refine ag_fix (.int .i64 t1847) (ex_get sT24 gb1848 (2) (.int .i64 t1847) (#[.int .i64 t1845, .int .i64 t1846, .int .i64 t1847]) BKb1848.out rfl _ rfl rfl) rfl ?_)
              | ((with_reducible refine gate_d (N := 45) rfl ?_); refine ag_fix (.pointer (some ⟨gb1848, 1, none⟩)) (ex_field 26 1 (.pointer (some ⟨gb1848, 0, none⟩)) (.pointer (some ⟨gb1848, 1, none⟩)) (fa26_1_0 gb1848) _ rfl rfl) rfl ?_)
              | ((with_reducible refine gate_d (N := 46) rfl ?_); refine ag_fix (.int .i64 t1846) (ex_get sT3 gb1848 (1) (.int .i64 t1846) (#[.int .i64 t1845, .int .i64 t1846, .int .i64 t1847]) BKb1848.out rfl _ rfl rfl) rfl ?_)
              | ((with_reducible refine gate_d (N := 47) rfl ?_); refine ag_fix (.pointer (some ⟨gb1832, 2, none⟩)) (ex_field 43 2 (.pointer (some ⟨gb1832, 0, none⟩)) (.pointer (some ⟨gb1832, 2, none⟩)) (fa43_2_0 gb1832) _ rfl rfl) rfl ?_)
              | ((with_reducible refine gate_s (t := 3) (p := 47) rfl ?_); refine ag_set sT3 gb1832 (2) (.int .i64 t1846) #[.int .i64 ((nt t1826 t1828.toNat (0, 0, 0, false)).1), .int .i64 ((nt t1826 t1828.toNat (0, 0, 0, false)).2.1), .int .i64 ((nt t1826 t1828.toNat (0, 0, 0, false)).2.2.1), .bool ((nt t1826 t1828.toNat (0, 0, 0, false)).2.2.2)] #[.int .i64 ((nt t1826 t1828.toNat (0, 0, 0, false)).1), .int .i64 ((nt t1826 t1828.toNat (0, 0, 0, false)).2.1), .int .i64 t1846, .bool ((nt t1826 t1828.toNat (0, 0, 0, false)).2.2.2)] BKb1832.out (by simp) rfl rfl rfl rfl _ _ rfl rfl rfl ?_; intro w1997 ho_ hB_; replace BKb1823 := hid (BKb1823.out.off ho_ NBb1823_b1832.out); replace BKb1824 := hid (BKb1824.out.off ho_ NBb1824_b1832.out); replace BKb1830 := hid (BKb1830.out.off ho_ NBb1830_b1832.out); replace BKb1848 := hid (BKb1848.out.off ho_ NBb1848_b1832.out); replace SWt1825 := hid (SWt1825.out.off ho_ BKb1832.out (by decide)); replace HL := hid (ho_.below HL.out GEb1832.out); replace BKb1832 := hid hB_; clear ho_ hB_)
              | ((with_reducible refine gate_d (N := 48) rfl ?_); refine ag_fix (.pointer (some ⟨gb1832, 0, none⟩)) (ex_field 43 0 (.pointer (some ⟨gb1832, 0, none⟩)) (.pointer (some ⟨gb1832, 0, none⟩)) (fa43_0_0 gb1832) _ rfl rfl) rfl ?_)
              | ((with_reducible refine gate_d (N := 49) rfl ?_); refine ag_fix (.int .i64 ((nt t1826 t1828.toNat (0, 0, 0, false)).1)) (ex_get sT3 gb1832 (0) (.int .i64 ((nt t1826 t1828.toNat (0, 0, 0, false)).1)) (#[.int .i64 ((nt t1826 t1828.toNat (0, 0, 0, false)).1), .int .i64 ((nt t1826 t1828.toNat (0, 0, 0, false)).2.1), .int .i64 t1846, .bool ((nt t1826 t1828.toNat (0, 0, 0, false)).2.2.2)]) BKb1832.out rfl _ rfl rfl) rfl ?_))
            (try simp only [Act.put, List.setIfInBounds_toArray, List.set_cons_zero, List.set_cons_succ])
            have WR64 := i64_w
            have WR32 := i32_w
            refine sq_region (fun w'_ => Below w.heap.size w w'_ ∧ Blk w'_ gb1830 26 #[.int .i64 t1827, .int .i64 t1828, .int .i64 t1829] ∧ Blk w'_ gb1832 43 #[.int .i64 ((nt t1826 t1828.toNat (0, 0, 0, false)).1), .int .i64 ((nt t1826 t1828.toNat (0, 0, 0, false)).2.1), .int .i64 t1846, .bool ((nt t1826 t1828.toNat (0, 0, 0, false)).2.2.2)] ∧ Blk w'_ gb1848 26 #[.int .i64 t1845, .int .i64 t1846, .int .i64 t1847] ∧ Own w'_ w.heap.size 9 (ut1825) (t1825.map Value.string) ∧ True) [5] [(0, true), (1, true), (2, true), (3, true), (4, false), (5, false)] (by kernel_rfl) (by kernel_rfl) (by kernel_rfl) rfl ?_
            intro w1998 hb_
            replace BKb1823 := hid (BKb1823.out.below hb_ BKb1823.out.lt)
            replace BKb1824 := hid (BKb1824.out.below hb_ BKb1824.out.lt)
            replace BKb1830 := hid (BKb1830.out.below hb_ BKb1830.out.lt)
            replace BKb1832 := hid (BKb1832.out.below hb_ BKb1832.out.lt)
            replace BKb1848 := hid (BKb1848.out.below hb_ BKb1848.out.lt)
            replace SWt1825 := hid (SWt1825.out.below hb_)
            replace HL := hid (HL.out.trans (hb_.mono HL.out.size))
            clear hb_
            refine sq_take (.agg #[.int .i64 ((nt t1826 t1828.toNat (0, 0, 0, false)).1), .int .i64 ((nt t1826 t1828.toNat (0, 0, 0, false)).2.1), .int .i64 t1846, .bool ((nt t1826 t1828.toNat (0, 0, 0, false)).2.2.2)]) ⟨HL.out, BKb1830.out, BKb1832.out, BKb1848.out, SWt1825.out, trivial⟩ rfl (fun w'_ hS_ => ex_load aT43 gb1832 0 #[.int .i64 ((nt t1826 t1828.toNat (0, 0, 0, false)).1), .int .i64 ((nt t1826 t1828.toNat (0, 0, 0, false)).2.1), .int .i64 t1846, .bool ((nt t1826 t1828.toNat (0, 0, 0, false)).2.2.2)] #[.int .i64 ((nt t1826 t1828.toNat (0, 0, 0, false)).1), .int .i64 ((nt t1826 t1828.toNat (0, 0, 0, false)).2.1), .int .i64 t1846, .bool ((nt t1826 t1828.toNat (0, 0, 0, false)).2.2.2)] hS_.2.2.1 (by simp) rfl _ rfl rfl) rfl rfl ?_
            intro ts_ ht_; simp only [List.setIfInBounds_toArray, List.set_cons_zero, List.set_cons_succ] at ht_; subst ht_
            refine sq_take (.pointer (some ⟨gb1848, 0, none⟩)) ⟨HL.out, BKb1830.out, BKb1832.out, BKb1848.out, SWt1825.out, trivial⟩ rfl (fun w'_ hS_ => ex_field 26 0 (.pointer (some ⟨gb1848, 0, none⟩)) (.pointer (some ⟨gb1848, 0, none⟩)) (fa26_0_0 gb1848) _ rfl rfl) rfl rfl ?_
            intro ts_ ht_; simp only [List.setIfInBounds_toArray, List.set_cons_zero, List.set_cons_succ] at ht_; subst ht_
            refine sq_take (.int .i64 t1845) ⟨HL.out, BKb1830.out, BKb1832.out, BKb1848.out, SWt1825.out, trivial⟩ rfl (fun w'_ hS_ => ex_get sT3 gb1848 (0) (.int .i64 t1845) (#[.int .i64 t1845, .int .i64 t1846, .int .i64 t1847]) hS_.2.2.2.1 rfl _ rfl rfl) rfl rfl ?_
            intro ts_ ht_; simp only [List.setIfInBounds_toArray, List.set_cons_zero, List.set_cons_succ] at ht_; subst ht_
            refine sq_take (.agg #[.int .i64 t1845, .int .i64 0, .int .i64 0]) ⟨HL.out, BKb1830.out, BKb1832.out, BKb1848.out, SWt1825.out, trivial⟩ rfl (fun w'_ hS_ => ex_build (.agg #[.int .i64 t1845, .int .i64 0, .int .i64 0]) _ rfl (by intro ww_; simp only [List.map_toArray, List.map_cons, List.map_nil]; kernel_rfl)) rfl rfl ?_
            intro ts_ ht_; simp only [List.setIfInBounds_toArray, List.set_cons_zero, List.set_cons_succ] at ht_; subst ht_
            refine sq_act rfl (fun Q'_ hQ_ => ?_)
            (with_reducible refine gate_s (t := 43) (p := 4) rfl ?_)
            refine ag_store aT43 gb1823 0 #[.int .i64 0, .int .i64 0, .int .i64 0, .bool false] #[.int .i64 ((nt t1826 t1828.toNat (0, 0, 0, false)).1), .int .i64 ((nt t1826 t1828.toNat (0, 0, 0, false)).2.1), .int .i64 t1846, .bool ((nt t1826 t1828.toNat (0, 0, 0, false)).2.2.2)] #[.int .i64 ((nt t1826 t1828.toNat (0, 0, 0, false)).1), .int .i64 ((nt t1826 t1828.toNat (0, 0, 0, false)).2.1), .int .i64 t1846, .bool ((nt t1826 t1828.toNat (0, 0, 0, false)).2.2.2)] BKb1823.out rfl (by simp) (by intro v_ hv_; simp at hv_; rcases hv_ with rfl | rfl | rfl | rfl <;> first | rfl) rfl rfl _ _ rfl rfl rfl ?_
            intro w1999 ho_ hB_
            replace BKb1824 := hid (BKb1824.out.off ho_ NBb1824_b1823.out)
            replace BKb1830 := hid (BKb1830.out.off ho_ NBb1830_b1823.out)
            replace BKb1832 := hid (BKb1832.out.off ho_ NBb1832_b1823.out)
            replace BKb1848 := hid (BKb1848.out.off ho_ NBb1848_b1823.out)
            replace SWt1825 := hid (SWt1825.out.off ho_ BKb1823.out (by decide))
            replace HL := hid (ho_.below HL.out GEb1823.out)
            replace BKb1823 := hid hB_
            clear ho_ hB_
            refine act_end ?_
            refine hQ_ _ _ (fun _ => ⟨HL.out, BKb1830.out, BKb1832.out, BKb1848.out, SWt1825.out, trivial⟩) ?_
            clear hQ_ Q'_
            simp only [Act.put]
            refine sq_act rfl (fun Q'_ hQ_ => ?_)
            (with_reducible refine gate_s (t := 26) (p := 5) rfl ?_)
            refine ag_store aT26 gb1824 0 #[.int .i64 0, .int .i64 0, .int .i64 0] #[.int .i64 t1845, .int .i64 0, .int .i64 0] #[.int .i64 t1845, .int .i64 0, .int .i64 0] BKb1824.out rfl (by simp) (by intro v_ hv_; simp at hv_; rcases hv_ with rfl | rfl | rfl <;> first | rfl) rfl rfl _ _ rfl rfl rfl ?_
            intro w2000 ho_ hB_
            replace BKb1823 := hid (BKb1823.out.off ho_ NBb1823_b1824.out)
            replace BKb1830 := hid (BKb1830.out.off ho_ NBb1830_b1824.out)
            replace BKb1832 := hid (BKb1832.out.off ho_ NBb1832_b1824.out)
            replace BKb1848 := hid (BKb1848.out.off ho_ NBb1848_b1824.out)
            replace SWt1825 := hid (SWt1825.out.off ho_ BKb1824.out (by decide))
            replace HL := hid (ho_.below HL.out GEb1824.out)
            replace BKb1824 := hid hB_
            clear ho_ hB_
            refine act_end ?_
            refine hQ_ _ _ (fun h_ => absurd h_ (by decide)) ?_
            clear hQ_ Q'_
            simp only [Act.put]
            refine sq_end ?_
            clear WR64 WR32
            go_wp2_with fail
            (try simp only [Act.put, List.setIfInBounds_toArray, List.set_cons_zero, List.set_cons_succ])
            refine bodyPost_ret (v := .tuple #[.agg #[.int .i64 ((nt t1826 t1828.toNat (0, 0, 0, false)).1), .int .i64 ((nt t1826 t1828.toNat (0, 0, 0, false)).2.1), .int .i64 t1846, .bool ((nt t1826 t1828.toNat (0, 0, 0, false)).2.2.2)], .agg #[.int .i64 t1845, .int .i64 0, .int .i64 0]]) (res_cc aT43 aT26 rfl _ gb1823 gb1824 #[.int .i64 ((nt t1826 t1828.toNat (0, 0, 0, false)).1), .int .i64 ((nt t1826 t1828.toNat (0, 0, 0, false)).2.1), .int .i64 t1846, .bool ((nt t1826 t1828.toNat (0, 0, 0, false)).2.2.2)] #[.int .i64 t1845, .int .i64 0, .int .i64 0] BKb1823.out rfl rfl BKb1824.out rfl rfl) rfl ?_
            exact ⟨by first | rfl | (simp; done) | (simp [*]; done), HL.out⟩
          · rw [if_neg c1980] at H
            have c1980b0 : (t1847 == 0) = false := beq_eq_false_iff_ne.mpr c1980
            have c1980b1 : (t1847 != 0) = true := bne_iff_ne.mpr c1980
            have hc1980 := hid c1980
            clear c1980
            simp only [Option.some.injEq, Prod.mk.injEq] at H
            obtain ⟨rfl, rfl, rfl, rfl, rfl, rfl, rfl⟩ := H
            go_enter Try.func36, Try.ntmps36
            have k2003 := True.intro
            have k2005 := True.intro
            have k2013 := True.intro
            go_wp2_with (first
              | ((with_reducible refine gate_d (N := 4) rfl ?_); obtain ⟨gb1823, hgb1823⟩ : ∃ g_, w.heap.size = g_ := ⟨_, rfl⟩; refine ag_alloc aT43 gb1823 hgb1823 rfl rfl ?_; intro w2001 hb_ hB_ hs_; have GEb1823 : Hid (w.heap.size ≤ gb1823) := hid (by have := HL.out.size; omega); replace HL := hid (HL.out.trans (hb_.mono GEb1823.out)); have BKb1823 := hid hB_; clear hb_ hB_ hs_ hgb1823)
              | ((with_reducible refine gate_d (N := 5) rfl ?_); obtain ⟨gb1824, hgb1824⟩ : ∃ g_, w2001.heap.size = g_ := ⟨_, rfl⟩; refine ag_alloc aT26 gb1824 hgb1824 rfl rfl ?_; intro w2002 hb_ hB_ hs_; have GEb1824 : Hid (w.heap.size ≤ gb1824) := hid (by have := HL.out.size; omega); have NBb1823_b1824 : Hid (gb1823 ≠ gb1824) := hid (by have := BKb1823.out.lt; omega); have NBb1824_b1823 : Hid (gb1824 ≠ gb1823) := hid (by have := NBb1823_b1824.out; omega); replace BKb1823 := hid (BKb1823.out.below hb_ (by rw [← hgb1824]; exact BKb1823.out.lt)); replace HL := hid (HL.out.trans (hb_.mono GEb1824.out)); have BKb1824 := hid hB_; clear hb_ hB_ hs_ hgb1824)
              | (go_at_call 48; clear k2003; refine (i_stip_words.calls k t1825 t1826 _ A1849.out).mono ?_; rintro e_ w2004 ⟨ut1825, ut1826, rfl, so_t1825, so_t1826, hb_⟩; replace so_t1825 := so_t1825.mono HL.out.size; replace so_t1826 := so_t1826.mono HL.out.size; have SWn_t1825 := hid so_t1825; clear so_t1825; have SWn_t1826 := hid so_t1826; clear so_t1826; replace BKb1823 := hid (BKb1823.out.below hb_ BKb1823.out.lt); replace BKb1824 := hid (BKb1824.out.below hb_ BKb1824.out.lt); replace HL := hid (HL.out.trans (hb_.mono HL.out.size)); clear hb_; have SWt1825 := SWn_t1825; clear SWn_t1825; have SWt1826 := SWn_t1826; clear SWn_t1826)
              | (go_at_call 12; clear k2005; refine (i_lex_OneOf.calls k a0 a1 (ut1825) t1825 t1827 t1828 t1829 _ SWt1825.out.sl A1850.out).mono ?_; rintro e_ w2006 ⟨rfl, hb_⟩; replace BKb1823 := hid (BKb1823.out.below hb_ BKb1823.out.lt); replace BKb1824 := hid (BKb1824.out.below hb_ BKb1824.out.lt); replace SWt1825 := hid (SWt1825.out.below hb_); replace SWt1826 := hid (SWt1826.out.below hb_); replace HL := hid (HL.out.trans (hb_.mono HL.out.size)); clear hb_)
              | ((with_reducible refine gate_d (N := 8) rfl ?_); obtain ⟨gb1830, hgb1830⟩ : ∃ g_, w2006.heap.size = g_ := ⟨_, rfl⟩; refine ag_alloc aT26 gb1830 hgb1830 rfl rfl ?_; intro w2007 hb_ hB_ hs_; have GEb1830 : Hid (w.heap.size ≤ gb1830) := hid (by have := HL.out.size; omega); have NBb1823_b1830 : Hid (gb1823 ≠ gb1830) := hid (by have := BKb1823.out.lt; omega); have NBb1830_b1823 : Hid (gb1830 ≠ gb1823) := hid (by have := NBb1823_b1830.out; omega); replace BKb1823 := hid (BKb1823.out.below hb_ (by rw [← hgb1830]; exact BKb1823.out.lt)); have NBb1824_b1830 : Hid (gb1824 ≠ gb1830) := hid (by have := BKb1824.out.lt; omega); have NBb1830_b1824 : Hid (gb1830 ≠ gb1824) := hid (by have := NBb1824_b1830.out; omega); replace BKb1824 := hid (BKb1824.out.below hb_ (by rw [← hgb1830]; exact BKb1824.out.lt)); replace SWt1825 := hid (SWt1825.out.below (by rw [hgb1830]; exact hb_)); replace SWt1826 := hid (SWt1826.out.below (by rw [hgb1830]; exact hb_)); replace HL := hid (HL.out.trans (hb_.mono GEb1830.out)); have BKb1830 := hid hB_; clear hb_ hB_ hs_ hgb1830)
              | ((with_reducible refine gate_s (t := 26) (p := 8) rfl ?_); refine ag_store aT26 gb1830 0 #[.int .i64 0, .int .i64 0, .int .i64 0] #[.int .i64 t1827, .int .i64 t1828, .int .i64 t1829] #[.int .i64 t1827, .int .i64 t1828, .int .i64 t1829] BKb1830.out rfl (by simp) (by intro v_ hv_; simp at hv_; rcases hv_ with rfl | rfl | rfl <;> first | rfl) rfl rfl _ _ rfl rfl rfl ?_; intro w2008 ho_ hB_; replace BKb1823 := hid (BKb1823.out.off ho_ NBb1823_b1830.out); replace BKb1824 := hid (BKb1824.out.off ho_ NBb1824_b1830.out); replace SWt1825 := hid (SWt1825.out.off ho_ BKb1830.out (by decide)); replace SWt1826 := hid (SWt1826.out.off ho_ BKb1830.out (by decide)); replace HL := hid (ho_.below HL.out GEb1830.out); replace BKb1830 := hid hB_; clear ho_ hB_)
              | ((with_reducible refine gate_d (N := 22) rfl ?_); refine ag_fix (.pointer (some ⟨gb1830, 2, none⟩)) (ex_field 26 2 (.pointer (some ⟨gb1830, 0, none⟩)) (.pointer (some ⟨gb1830, 2, none⟩)) (fa26_2_0 gb1830) _ rfl rfl) rfl ?_)
              | ((with_reducible refine gate_d (N := 23) rfl ?_); refine ag_fix (.int .i64 t1829) (ex_get sT24 gb1830 (2) (.int .i64 t1829) (#[.int .i64 t1827, .int .i64 t1828, .int .i64 t1829]) BKb1830.out rfl _ rfl rfl) rfl ?_)
              | ((with_reducible refine gate_d (N := 28) rfl ?_); refine ag_fix (.pointer (some ⟨gb1830, 1, none⟩)) (ex_field 26 1 (.pointer (some ⟨gb1830, 0, none⟩)) (.pointer (some ⟨gb1830, 1, none⟩)) (fa26_1_0 gb1830) _ rfl rfl) rfl ?_)
              | ((with_reducible refine gate_d (N := 29) rfl ?_); refine ag_fix (.int .i64 t1828) (ex_get sT3 gb1830 (1) (.int .i64 t1828) (#[.int .i64 t1827, .int .i64 t1828, .int .i64 t1829]) BKb1830.out rfl _ rfl rfl) rfl ?_)
              | ((with_reducible refine gate_d (N := 30) rfl ?_); obtain ⟨ad1831, c2009, hv2010, HCad1831_⟩ := SlN.get (l := t1826) (f := en43) en43_len SWt1826.out.sl (0, 0, 0, false) (i := t1828) hc1852.out hc1853.out; have HCad1831 := hid HCad1831_; clear HCad1831_; refine ag_fix (.pointer (some (ad1831.add (t1828.toNat * 4)))) (ex_satN _ _ t1828 _ _ hv2010 hc1852.out hc1853.out us74 aT43.size _ _ rfl rfl rfl) rfl ?_; clear hv2010)
              | ((with_reducible refine gate_d (N := 31) rfl ?_); refine ag_fix (.agg #[.int .i64 ((nt t1826 t1828.toNat (0, 0, 0, false)).1), .int .i64 ((nt t1826 t1828.toNat (0, 0, 0, false)).2.1), .int .i64 ((nt t1826 t1828.toNat (0, 0, 0, false)).2.2.1), .bool ((nt t1826 t1828.toNat (0, 0, 0, false)).2.2.2)]) (ex_ldN aT43 _ (en43 (nt t1826 t1828.toNat (0, 0, 0, false))) rfl HCad1831.out _ rfl rfl) rfl ?_)
              | ((with_reducible refine gate_d (N := 9) rfl ?_); obtain ⟨gb1832, hgb1832⟩ : ∃ g_, w2008.heap.size = g_ := ⟨_, rfl⟩; refine ag_alloc aT43 gb1832 hgb1832 rfl rfl ?_; intro w2011 hb_ hB_ hs_; have GEb1832 : Hid (w.heap.size ≤ gb1832) := hid (by have := HL.out.size; omega); have NBb1823_b1832 : Hid (gb1823 ≠ gb1832) := hid (by have := BKb1823.out.lt; omega); have NBb1832_b1823 : Hid (gb1832 ≠ gb1823) := hid (by have := NBb1823_b1832.out; omega); replace BKb1823 := hid (BKb1823.out.below hb_ (by rw [← hgb1832]; exact BKb1823.out.lt)); have NBb1824_b1832 : Hid (gb1824 ≠ gb1832) := hid (by have := BKb1824.out.lt; omega); have NBb1832_b1824 : Hid (gb1832 ≠ gb1824) := hid (by have := NBb1824_b1832.out; omega); replace BKb1824 := hid (BKb1824.out.below hb_ (by rw [← hgb1832]; exact BKb1824.out.lt)); have NBb1830_b1832 : Hid (gb1830 ≠ gb1832) := hid (by have := BKb1830.out.lt; omega); have NBb1832_b1830 : Hid (gb1832 ≠ gb1830) := hid (by have := NBb1830_b1832.out; omega); replace BKb1830 := hid (BKb1830.out.below hb_ (by rw [← hgb1832]; exact BKb1830.out.lt)); replace SWt1825 := hid (SWt1825.out.below (by rw [hgb1832]; exact hb_)); replace SWt1826 := hid (SWt1826.out.below (by rw [hgb1832]; exact hb_)); replace HL := hid (HL.out.trans (hb_.mono GEb1832.out)); have BKb1832 := hid hB_; clear hb_ hB_ hs_ hgb1832)
              | ((with_reducible refine gate_s (t := 43) (p := 9) rfl ?_); refine ag_store aT43 gb1832 0 #[.int .i64 0, .int .i64 0, .int .i64 0, .bool false] #[.int .i64 ((nt t1826 t1828.toNat (0, 0, 0, false)).1), .int .i64 ((nt t1826 t1828.toNat (0, 0, 0, false)).2.1), .int .i64 ((nt t1826 t1828.toNat (0, 0, 0, false)).2.2.1), .bool ((nt t1826 t1828.toNat (0, 0, 0, false)).2.2.2)] #[.int .i64 ((nt t1826 t1828.toNat (0, 0, 0, false)).1), .int .i64 ((nt t1826 t1828.toNat (0, 0, 0, false)).2.1), .int .i64 ((nt t1826 t1828.toNat (0, 0, 0, false)).2.2.1), .bool ((nt t1826 t1828.toNat (0, 0, 0, false)).2.2.2)] BKb1832.out rfl (by simp) (by intro v_ hv_; simp at hv_; rcases hv_ with rfl | rfl | rfl | rfl <;> first | rfl) rfl rfl _ _ rfl rfl rfl ?_; intro w2012 ho_ hB_; replace BKb1823 := hid (BKb1823.out.off ho_ NBb1823_b1832.out); replace BKb1824 := hid (BKb1824.out.off ho_ NBb1824_b1832.out); replace BKb1830 := hid (BKb1830.out.off ho_ NBb1830_b1832.out); clear SWt1826; replace SWt1825 := hid (SWt1825.out.off ho_ BKb1832.out (by decide)); replace HL := hid (ho_.below HL.out GEb1832.out); replace BKb1832 := hid hB_; clear ho_ hB_)
              | ((with_reducible refine gate_d (N := 32) rfl ?_); refine ag_fix (.pointer (some ⟨gb1832, 0, none⟩)) (ex_field 43 0 (.pointer (some ⟨gb1832, 0, none⟩)) (.pointer (some ⟨gb1832, 0, none⟩)) (fa43_0_0 gb1832) _ rfl rfl) rfl ?_)
              | ((with_reducible refine gate_d (N := 33) rfl ?_); refine ag_fix (.int .i64 ((nt t1826 t1828.toNat (0, 0, 0, false)).1)) (ex_get sT3 gb1832 (0) (.int .i64 ((nt t1826 t1828.toNat (0, 0, 0, false)).1)) (#[.int .i64 ((nt t1826 t1828.toNat (0, 0, 0, false)).1), .int .i64 ((nt t1826 t1828.toNat (0, 0, 0, false)).2.1), .int .i64 ((nt t1826 t1828.toNat (0, 0, 0, false)).2.2.1), .bool ((nt t1826 t1828.toNat (0, 0, 0, false)).2.2.2)]) BKb1832.out rfl _ rfl rfl) rfl ?_)
              | ((with_reducible refine gate_d (N := 36) rfl ?_); refine ag_fix (.pointer (some ⟨gb1830, 0, none⟩)) (ex_field 26 0 (.pointer (some ⟨gb1830, 0, none⟩)) (.pointer (some ⟨gb1830, 0, none⟩)) (fa26_0_0 gb1830) _ rfl rfl) rfl ?_)
              | ((with_reducible refine gate_d (N := 37) rfl ?_); refine ag_fix (.int .i64 t1827) (ex_get sT3 gb1830 (0) (.int .i64 t1827) (#[.int .i64 t1827, .int .i64 t1828, .int .i64 t1829]) BKb1830.out rfl _ rfl rfl) rfl ?_)
              | (go_at_call 14; clear k2013; refine (i_lex_Number.calls k a0 t1827 1 64 t1845 t1846 t1847 _ A1979.out).mono ?_; rintro e_ w2014 ⟨rfl, hb_⟩; replace BKb1823 := hid (BKb1823.out.below hb_ BKb1823.out.lt); replace BKb1824 := hid (BKb1824.out.below hb_ BKb1824.out.lt); replace BKb1830 := hid (BKb1830.out.below hb_ BKb1830.out.lt); replace BKb1832 := hid (BKb1832.out.below hb_ BKb1832.out.lt); replace SWt1825 := hid (SWt1825.out.below hb_); replace HL := hid (HL.out.trans (hb_.mono HL.out.size)); clear hb_)
              | ((with_reducible refine gate_d (N := 11) rfl ?_); obtain ⟨gb1848, hgb1848⟩ : ∃ g_, w2014.heap.size = g_ := ⟨_, rfl⟩; refine ag_alloc aT26 gb1848 hgb1848 rfl rfl ?_; intro w2015 hb_ hB_ hs_; have GEb1848 : Hid (w.heap.size ≤ gb1848) := hid (by have := HL.out.size; omega); have NBb1823_b1848 : Hid (gb1823 ≠ gb1848) := hid (by have := BKb1823.out.lt; omega); have NBb1848_b1823 : Hid (gb1848 ≠ gb1823) := hid (by have := NBb1823_b1848.out; omega); replace BKb1823 := hid (BKb1823.out.below hb_ (by rw [← hgb1848]; exact BKb1823.out.lt)); have NBb1824_b1848 : Hid (gb1824 ≠ gb1848) := hid (by have := BKb1824.out.lt; omega); have NBb1848_b1824 : Hid (gb1848 ≠ gb1824) := hid (by have := NBb1824_b1848.out; omega); replace BKb1824 := hid (BKb1824.out.below hb_ (by rw [← hgb1848]; exact BKb1824.out.lt)); have NBb1830_b1848 : Hid (gb1830 ≠ gb1848) := hid (by have := BKb1830.out.lt; omega); have NBb1848_b1830 : Hid (gb1848 ≠ gb1830) := hid (by have := NBb1830_b1848.out; omega); replace BKb1830 := hid (BKb1830.out.below hb_ (by rw [← hgb1848]; exact BKb1830.out.lt)); have NBb1832_b1848 : Hid (gb1832 ≠ gb1848) := hid (by have := BKb1832.out.lt; omega); have NBb1848_b1832 : Hid (gb1848 ≠ gb1832) := hid (by have := NBb1832_b1848.out; omega); replace BKb1832 := hid (BKb1832.out.below hb_ (by rw [← hgb1848]; exact BKb1832.out.lt)); replace SWt1825 := hid (SWt1825.out.below (by rw [hgb1848]; exact hb_)); replace HL := hid (HL.out.trans (hb_.mono GEb1848.out)); have BKb1848 := hid hB_; clear hb_ hB_ hs_ hgb1848)
              | ((with_reducible refine gate_s (t := 26) (p := 11) rfl ?_); refine ag_store aT26 gb1848 0 #[.int .i64 0, .int .i64 0, .int .i64 0] #[.int .i64 t1845, .int .i64 t1846, .int .i64 t1847] #[.int .i64 t1845, .int .i64 t1846, .int .i64 t1847] BKb1848.out rfl (by simp) (by intro v_ hv_; simp at hv_; rcases hv_ with rfl | rfl | rfl <;> first | rfl) rfl rfl _ _ rfl rfl rfl ?_; intro w2016 ho_ hB_; replace BKb1823 := hid (BKb1823.out.off ho_ NBb1823_b1848.out); replace BKb1824 := hid (BKb1824.out.off ho_ NBb1824_b1848.out); replace BKb1830 := hid (BKb1830.out.off ho_ NBb1830_b1848.out); replace BKb1832 := hid (BKb1832.out.off ho_ NBb1832_b1848.out); replace SWt1825 := hid (SWt1825.out.off ho_ BKb1848.out (by decide)); replace HL := hid (ho_.below HL.out GEb1848.out); replace BKb1848 := hid hB_; clear ho_ hB_)
              | ((with_reducible refine gate_d (N := 40) rfl ?_); refine ag_fix (.pointer (some ⟨gb1848, 2, none⟩)) (ex_field 26 2 (.pointer (some ⟨gb1848, 0, none⟩)) (.pointer (some ⟨gb1848, 2, none⟩)) (fa26_2_0 gb1848) _ rfl rfl) rfl ?_)
              | ((with_reducible refine gate_d (N := 41) rfl ?_); refine ag_fix (.int .i64 t1847) (ex_get sT24 gb1848 (2) (.int .i64 t1847) (#[.int .i64 t1845, .int .i64 t1846, .int .i64 t1847]) BKb1848.out rfl _ rfl rfl) rfl ?_))
            (try simp only [Act.put, List.setIfInBounds_toArray, List.set_cons_zero, List.set_cons_succ])
            have WR64 := i64_w
            have WR32 := i32_w
            refine sq_region (fun w'_ => Below w.heap.size w w'_ ∧ Blk w'_ gb1830 26 #[.int .i64 t1827, .int .i64 t1828, .int .i64 t1829] ∧ Blk w'_ gb1832 43 #[.int .i64 ((nt t1826 t1828.toNat (0, 0, 0, false)).1), .int .i64 ((nt t1826 t1828.toNat (0, 0, 0, false)).2.1), .int .i64 ((nt t1826 t1828.toNat (0, 0, 0, false)).2.2.1), .bool ((nt t1826 t1828.toNat (0, 0, 0, false)).2.2.2)] ∧ Blk w'_ gb1848 26 #[.int .i64 t1845, .int .i64 t1846, .int .i64 t1847] ∧ Own w'_ w.heap.size 9 (ut1825) (t1825.map Value.string) ∧ True) [3] [(0, true), (1, true), (2, false), (3, false)] (by kernel_rfl) (by kernel_rfl) (by kernel_rfl) rfl ?_
            intro w2017 hb_
            replace BKb1823 := hid (BKb1823.out.below hb_ BKb1823.out.lt)
            replace BKb1824 := hid (BKb1824.out.below hb_ BKb1824.out.lt)
            replace BKb1830 := hid (BKb1830.out.below hb_ BKb1830.out.lt)
            replace BKb1832 := hid (BKb1832.out.below hb_ BKb1832.out.lt)
            replace BKb1848 := hid (BKb1848.out.below hb_ BKb1848.out.lt)
            replace SWt1825 := hid (SWt1825.out.below hb_)
            replace HL := hid (HL.out.trans (hb_.mono HL.out.size))
            clear hb_
            refine sq_take (.agg #[.int .i64 0, .int .i64 0, .int .i64 0, .bool false]) ⟨HL.out, BKb1830.out, BKb1832.out, BKb1848.out, SWt1825.out, trivial⟩ rfl (fun w'_ hS_ => ex_build (.agg #[.int .i64 0, .int .i64 0, .int .i64 0, .bool false]) _ rfl (by intro ww_; kernel_rfl)) rfl rfl ?_
            intro ts_ ht_; simp only [List.setIfInBounds_toArray, List.set_cons_zero, List.set_cons_succ] at ht_; subst ht_
            refine sq_take (.agg #[.int .i64 t1845, .int .i64 t1846, .int .i64 t1847]) ⟨HL.out, BKb1830.out, BKb1832.out, BKb1848.out, SWt1825.out, trivial⟩ rfl (fun w'_ hS_ => ex_load aT26 gb1848 0 #[.int .i64 t1845, .int .i64 t1846, .int .i64 t1847] #[.int .i64 t1845, .int .i64 t1846, .int .i64 t1847] hS_.2.2.2.1 (by simp) rfl _ rfl rfl) rfl rfl ?_
            intro ts_ ht_; simp only [List.setIfInBounds_toArray, List.set_cons_zero, List.set_cons_succ] at ht_; subst ht_
            refine sq_act rfl (fun Q'_ hQ_ => ?_)
            (with_reducible refine gate_s (t := 43) (p := 4) rfl ?_)
            refine ag_store aT43 gb1823 0 #[.int .i64 0, .int .i64 0, .int .i64 0, .bool false] #[.int .i64 0, .int .i64 0, .int .i64 0, .bool false] #[.int .i64 0, .int .i64 0, .int .i64 0, .bool false] BKb1823.out rfl (by simp) (by intro v_ hv_; simp at hv_; rcases hv_ with rfl | rfl | rfl | rfl <;> first | rfl) rfl rfl _ _ rfl rfl rfl ?_
            intro w2018 ho_ hB_
            replace BKb1824 := hid (BKb1824.out.off ho_ NBb1824_b1823.out)
            replace BKb1830 := hid (BKb1830.out.off ho_ NBb1830_b1823.out)
            replace BKb1832 := hid (BKb1832.out.off ho_ NBb1832_b1823.out)
            replace BKb1848 := hid (BKb1848.out.off ho_ NBb1848_b1823.out)
            replace SWt1825 := hid (SWt1825.out.off ho_ BKb1823.out (by decide))
            replace HL := hid (ho_.below HL.out GEb1823.out)
            replace BKb1823 := hid hB_
            clear ho_ hB_
            refine act_end ?_
            refine hQ_ _ _ (fun _ => ⟨HL.out, BKb1830.out, BKb1832.out, BKb1848.out, SWt1825.out, trivial⟩) ?_
            clear hQ_ Q'_
            simp only [Act.put]
            refine sq_act rfl (fun Q'_ hQ_ => ?_)
            (with_reducible refine gate_s (t := 26) (p := 5) rfl ?_)
            refine ag_store aT26 gb1824 0 #[.int .i64 0, .int .i64 0, .int .i64 0] #[.int .i64 t1845, .int .i64 t1846, .int .i64 t1847] #[.int .i64 t1845, .int .i64 t1846, .int .i64 t1847] BKb1824.out rfl (by simp) (by intro v_ hv_; simp at hv_; rcases hv_ with rfl | rfl | rfl <;> first | rfl) rfl rfl _ _ rfl rfl rfl ?_
            intro w2019 ho_ hB_
            replace BKb1823 := hid (BKb1823.out.off ho_ NBb1823_b1824.out)
            replace BKb1830 := hid (BKb1830.out.off ho_ NBb1830_b1824.out)
            replace BKb1832 := hid (BKb1832.out.off ho_ NBb1832_b1824.out)
            replace BKb1848 := hid (BKb1848.out.off ho_ NBb1848_b1824.out)
            replace SWt1825 := hid (SWt1825.out.off ho_ BKb1824.out (by decide))
            replace HL := hid (ho_.below HL.out GEb1824.out)
            replace BKb1824 := hid hB_
            clear ho_ hB_
            refine act_end ?_
            refine hQ_ _ _ (fun h_ => absurd h_ (by decide)) ?_
            clear hQ_ Q'_
            simp only [Act.put]
            refine sq_end ?_
            clear WR64 WR32
            go_wp2_with fail
            (try simp only [Act.put, List.setIfInBounds_toArray, List.set_cons_zero, List.set_cons_succ])
            refine bodyPost_ret (v := .tuple #[.agg #[.int .i64 0, .int .i64 0, .int .i64 0, .bool false], .agg #[.int .i64 t1845, .int .i64 t1846, .int .i64 t1847]]) (res_cc aT43 aT26 rfl _ gb1823 gb1824 #[.int .i64 0, .int .i64 0, .int .i64 0, .bool false] #[.int .i64 t1845, .int .i64 t1846, .int .i64 t1847] BKb1823.out rfl rfl BKb1824.out rfl rfl) rfl ?_
            exact ⟨by first | rfl | (simp; done) | (simp [*]; done), HL.out⟩
      · rw [if_neg c1853] at H
        exact absurd H (by simp)
    · rw [if_neg c1852] at H
      exact absurd H (by simp)
  · rw [if_neg c1851] at H
    have c1851b0 : (t1829 == 0) = false := beq_eq_false_iff_ne.mpr c1851
    have c1851b1 : (t1829 != 0) = true := bne_iff_ne.mpr c1851
    have hc1851 := hid c1851
    clear c1851
    simp only [Option.some.injEq, Prod.mk.injEq] at H
    obtain ⟨rfl, rfl, rfl, rfl, rfl, rfl, rfl⟩ := H
    go_enter Try.func36, Try.ntmps36
    have k2022 := True.intro
    have k2024 := True.intro
    go_wp2_with (first
      | ((with_reducible refine gate_d (N := 4) rfl ?_); obtain ⟨gb1823, hgb1823⟩ : ∃ g_, w.heap.size = g_ := ⟨_, rfl⟩; refine ag_alloc aT43 gb1823 hgb1823 rfl rfl ?_; intro w2020 hb_ hB_ hs_; have GEb1823 : Hid (w.heap.size ≤ gb1823) := hid (by have := HL.out.size; omega); replace HL := hid (HL.out.trans (hb_.mono GEb1823.out)); have BKb1823 := hid hB_; clear hb_ hB_ hs_ hgb1823)
      | ((with_reducible refine gate_d (N := 5) rfl ?_); obtain ⟨gb1824, hgb1824⟩ : ∃ g_, w2020.heap.size = g_ := ⟨_, rfl⟩; refine ag_alloc aT26 gb1824 hgb1824 rfl rfl ?_; intro w2021 hb_ hB_ hs_; have GEb1824 : Hid (w.heap.size ≤ gb1824) := hid (by have := HL.out.size; omega); have NBb1823_b1824 : Hid (gb1823 ≠ gb1824) := hid (by have := BKb1823.out.lt; omega); have NBb1824_b1823 : Hid (gb1824 ≠ gb1823) := hid (by have := NBb1823_b1824.out; omega); replace BKb1823 := hid (BKb1823.out.below hb_ (by rw [← hgb1824]; exact BKb1823.out.lt)); replace HL := hid (HL.out.trans (hb_.mono GEb1824.out)); have BKb1824 := hid hB_; clear hb_ hB_ hs_ hgb1824)
      | (go_at_call 48; clear k2022; refine (i_stip_words.calls k t1825 t1826 _ A1849.out).mono ?_; rintro e_ w2023 ⟨ut1825, ut1826, rfl, so_t1825, so_t1826, hb_⟩; replace so_t1825 := so_t1825.mono HL.out.size; replace so_t1826 := so_t1826.mono HL.out.size; have SWn_t1825 := hid so_t1825; clear so_t1825; have SWn_t1826 := hid so_t1826; clear so_t1826; replace BKb1823 := hid (BKb1823.out.below hb_ BKb1823.out.lt); replace BKb1824 := hid (BKb1824.out.below hb_ BKb1824.out.lt); replace HL := hid (HL.out.trans (hb_.mono HL.out.size)); clear hb_; have SWt1825 := SWn_t1825; clear SWn_t1825; have SWt1826 := SWn_t1826; clear SWn_t1826)
      | (go_at_call 12; clear k2024; refine (i_lex_OneOf.calls k a0 a1 (ut1825) t1825 t1827 t1828 t1829 _ SWt1825.out.sl A1850.out).mono ?_; rintro e_ w2025 ⟨rfl, hb_⟩; replace BKb1823 := hid (BKb1823.out.below hb_ BKb1823.out.lt); replace BKb1824 := hid (BKb1824.out.below hb_ BKb1824.out.lt); replace SWt1825 := hid (SWt1825.out.below hb_); replace SWt1826 := hid (SWt1826.out.below hb_); replace HL := hid (HL.out.trans (hb_.mono HL.out.size)); clear hb_)
      | ((with_reducible refine gate_d (N := 8) rfl ?_); obtain ⟨gb1830, hgb1830⟩ : ∃ g_, w2025.heap.size = g_ := ⟨_, rfl⟩; refine ag_alloc aT26 gb1830 hgb1830 rfl rfl ?_; intro w2026 hb_ hB_ hs_; have GEb1830 : Hid (w.heap.size ≤ gb1830) := hid (by have := HL.out.size; omega); have NBb1823_b1830 : Hid (gb1823 ≠ gb1830) := hid (by have := BKb1823.out.lt; omega); have NBb1830_b1823 : Hid (gb1830 ≠ gb1823) := hid (by have := NBb1823_b1830.out; omega); replace BKb1823 := hid (BKb1823.out.below hb_ (by rw [← hgb1830]; exact BKb1823.out.lt)); have NBb1824_b1830 : Hid (gb1824 ≠ gb1830) := hid (by have := BKb1824.out.lt; omega); have NBb1830_b1824 : Hid (gb1830 ≠ gb1824) := hid (by have := NBb1824_b1830.out; omega); replace BKb1824 := hid (BKb1824.out.below hb_ (by rw [← hgb1830]; exact BKb1824.out.lt)); replace SWt1825 := hid (SWt1825.out.below (by rw [hgb1830]; exact hb_)); replace SWt1826 := hid (SWt1826.out.below (by rw [hgb1830]; exact hb_)); replace HL := hid (HL.out.trans (hb_.mono GEb1830.out)); have BKb1830 := hid hB_; clear hb_ hB_ hs_ hgb1830)
      | ((with_reducible refine gate_s (t := 26) (p := 8) rfl ?_); refine ag_store aT26 gb1830 0 #[.int .i64 0, .int .i64 0, .int .i64 0] #[.int .i64 t1827, .int .i64 t1828, .int .i64 t1829] #[.int .i64 t1827, .int .i64 t1828, .int .i64 t1829] BKb1830.out rfl (by simp) (by intro v_ hv_; simp at hv_; rcases hv_ with rfl | rfl | rfl <;> first | rfl) rfl rfl _ _ rfl rfl rfl ?_; intro w2027 ho_ hB_; replace BKb1823 := hid (BKb1823.out.off ho_ NBb1823_b1830.out); replace BKb1824 := hid (BKb1824.out.off ho_ NBb1824_b1830.out); replace SWt1825 := hid (SWt1825.out.off ho_ BKb1830.out (by decide)); replace SWt1826 := hid (SWt1826.out.off ho_ BKb1830.out (by decide)); replace HL := hid (ho_.below HL.out GEb1830.out); replace BKb1830 := hid hB_; clear ho_ hB_)
      | ((with_reducible refine gate_d (N := 22) rfl ?_); refine ag_fix (.pointer (some ⟨gb1830, 2, none⟩)) (ex_field 26 2 (.pointer (some ⟨gb1830, 0, none⟩)) (.pointer (some ⟨gb1830, 2, none⟩)) (fa26_2_0 gb1830) _ rfl rfl) rfl ?_)
      | ((with_reducible refine gate_d (N := 23) rfl ?_); refine ag_fix (.int .i64 t1829) (ex_get sT24 gb1830 (2) (.int .i64 t1829) (#[.int .i64 t1827, .int .i64 t1828, .int .i64 t1829]) BKb1830.out rfl _ rfl rfl) rfl ?_))
    (try simp only [Act.put, List.setIfInBounds_toArray, List.set_cons_zero, List.set_cons_succ])
    have WR64 := i64_w
    have WR32 := i32_w
    refine sq_region (fun w'_ => Below w.heap.size w w'_ ∧ Blk w'_ gb1830 26 #[.int .i64 t1827, .int .i64 t1828, .int .i64 t1829] ∧ Own w'_ w.heap.size 9 (ut1825) (t1825.map Value.string) ∧ True) [3] [(0, true), (1, true), (2, false), (3, false)] (by kernel_rfl) (by kernel_rfl) (by kernel_rfl) rfl ?_
    intro w2028 hb_
    replace BKb1823 := hid (BKb1823.out.below hb_ BKb1823.out.lt)
    replace BKb1824 := hid (BKb1824.out.below hb_ BKb1824.out.lt)
    replace BKb1830 := hid (BKb1830.out.below hb_ BKb1830.out.lt)
    replace SWt1825 := hid (SWt1825.out.below hb_)
    replace SWt1826 := hid (SWt1826.out.below hb_)
    replace HL := hid (HL.out.trans (hb_.mono HL.out.size))
    clear hb_
    refine sq_take (.agg #[.int .i64 0, .int .i64 0, .int .i64 0, .bool false]) ⟨HL.out, BKb1830.out, SWt1825.out, trivial⟩ rfl (fun w'_ hS_ => ex_build (.agg #[.int .i64 0, .int .i64 0, .int .i64 0, .bool false]) _ rfl (by intro ww_; kernel_rfl)) rfl rfl ?_
    intro ts_ ht_; simp only [List.setIfInBounds_toArray, List.set_cons_zero, List.set_cons_succ] at ht_; subst ht_
    refine sq_take (.agg #[.int .i64 t1827, .int .i64 t1828, .int .i64 t1829]) ⟨HL.out, BKb1830.out, SWt1825.out, trivial⟩ rfl (fun w'_ hS_ => ex_load aT26 gb1830 0 #[.int .i64 t1827, .int .i64 t1828, .int .i64 t1829] #[.int .i64 t1827, .int .i64 t1828, .int .i64 t1829] hS_.2.1 (by simp) rfl _ rfl rfl) rfl rfl ?_
    intro ts_ ht_; simp only [List.setIfInBounds_toArray, List.set_cons_zero, List.set_cons_succ] at ht_; subst ht_
    refine sq_act rfl (fun Q'_ hQ_ => ?_)
    (with_reducible refine gate_s (t := 43) (p := 4) rfl ?_)
    refine ag_store aT43 gb1823 0 #[.int .i64 0, .int .i64 0, .int .i64 0, .bool false] #[.int .i64 0, .int .i64 0, .int .i64 0, .bool false] #[.int .i64 0, .int .i64 0, .int .i64 0, .bool false] BKb1823.out rfl (by simp) (by intro v_ hv_; simp at hv_; rcases hv_ with rfl | rfl | rfl | rfl <;> first | rfl) rfl rfl _ _ rfl rfl rfl ?_
    intro w2029 ho_ hB_
    replace BKb1824 := hid (BKb1824.out.off ho_ NBb1824_b1823.out)
    replace BKb1830 := hid (BKb1830.out.off ho_ NBb1830_b1823.out)
    clear SWt1826
    replace SWt1825 := hid (SWt1825.out.off ho_ BKb1823.out (by decide))
    replace HL := hid (ho_.below HL.out GEb1823.out)
    replace BKb1823 := hid hB_
    clear ho_ hB_
    refine act_end ?_
    refine hQ_ _ _ (fun _ => ⟨HL.out, BKb1830.out, SWt1825.out, trivial⟩) ?_
    clear hQ_ Q'_
    simp only [Act.put]
    refine sq_act rfl (fun Q'_ hQ_ => ?_)
    (with_reducible refine gate_s (t := 26) (p := 5) rfl ?_)
    refine ag_store aT26 gb1824 0 #[.int .i64 0, .int .i64 0, .int .i64 0] #[.int .i64 t1827, .int .i64 t1828, .int .i64 t1829] #[.int .i64 t1827, .int .i64 t1828, .int .i64 t1829] BKb1824.out rfl (by simp) (by intro v_ hv_; simp at hv_; rcases hv_ with rfl | rfl | rfl <;> first | rfl) rfl rfl _ _ rfl rfl rfl ?_
    intro w2030 ho_ hB_
    replace BKb1823 := hid (BKb1823.out.off ho_ NBb1823_b1824.out)
    replace BKb1830 := hid (BKb1830.out.off ho_ NBb1830_b1824.out)
    replace SWt1825 := hid (SWt1825.out.off ho_ BKb1824.out (by decide))
    replace HL := hid (ho_.below HL.out GEb1824.out)
    replace BKb1824 := hid hB_
    clear ho_ hB_
    refine act_end ?_
    refine hQ_ _ _ (fun h_ => absurd h_ (by decide)) ?_
    clear hQ_ Q'_
    simp only [Act.put]
    refine sq_end ?_
    clear WR64 WR32
    go_wp2_with fail
    (try simp only [Act.put, List.setIfInBounds_toArray, List.set_cons_zero, List.set_cons_succ])
    refine bodyPost_ret (v := .tuple #[.agg #[.int .i64 0, .int .i64 0, .int .i64 0, .bool false], .agg #[.int .i64 t1827, .int .i64 t1828, .int .i64 t1829]]) (res_cc aT43 aT26 rfl _ gb1823 gb1824 #[.int .i64 0, .int .i64 0, .int .i64 0, .bool false] #[.int .i64 t1827, .int .i64 t1828, .int .i64 t1829] BKb1823.out rfl rfl BKb1824.out rfl rfl) rfl ?_
    exact ⟨by first | rfl | (simp; done) | (simp [*]; done), HL.out⟩
end Go.Proofs.Ytabbkeliknidgaa
