import Derived.Test.YtaipghemddjecaaProg
import Derived.Test.YtaipghemddjecaaL1wz
import Derived.Test.YtaipghemddjecaaL2wz
import Derived.Test.YtaipghemddjecaaS2wz
namespace Go.Proofs.Ytaipghemddjecaa
open Go.RowKit
set_option linter.unusedVariables false
set_option linter.unusedSimpArgs false
set_option maxRecDepth 100000
theorem aT84_agg (w : World) : (isAgg 84).run Try.prog w = .ok true w := by kernel_rfl
theorem aT84_size (w : World) : (sizeOf 84).run Try.prog w = .ok 8 w := by kernel_rfl
theorem aT84_zero (w : World) : (zeroValue 84).run Try.prog w = .ok (.agg (av Value.string (List.replicate 8 (⟨#[]⟩ : ByteArray)))) w := by kernel_rfl
theorem aT84 : AggT Try.prog 84 8 (av Value.string (List.replicate 8 (⟨#[]⟩ : ByteArray))) := ⟨aT84_agg, aT84_size, aT84_zero, by first | rfl | decide⟩
theorem aT86_agg (w : World) : (isAgg 86).run Try.prog w = .ok true w := by kernel_rfl
theorem aT86_size (w : World) : (sizeOf 86).run Try.prog w = .ok 3 w := by kernel_rfl
theorem aT86_zero (w : World) : (zeroValue 86).run Try.prog w = .ok (.agg (av Value.string (List.replicate 3 (⟨#[]⟩ : ByteArray)))) w := by kernel_rfl
theorem aT86 : AggT Try.prog 86 3 (av Value.string (List.replicate 3 (⟨#[]⟩ : ByteArray))) := ⟨aT86_agg, aT86_size, aT86_zero, by first | rfl | decide⟩
def en29 (x : Int × Int × Int × Bool) : List Value := [.int .i64 x.1, .int .i64 x.2.1, .int .i64 x.2.2.1, .bool x.2.2.2]
theorem en29_len (x : Int × Int × Int × Bool) : (en29 x).length = 4 := rfl
theorem uT84 : Try.prog.underlying 84 = some (.array 8 9) := by kernel_rfl
theorem uT86 : Try.prog.underlying 86 = some (.array 3 9) := by kernel_rfl
theorem eT54_info : (Try.prog.info? 9).map (fun i => (i.zero, i.size, i.bytes)) = some (some (.string ⟨#[]⟩), 1, 16) := by kernel_rfl
theorem eT54 : ElemT Try.prog 54 9 16 := ⟨by kernel_rfl, by
  obtain ⟨i, h1, h2, h3, h4⟩ := info_parts eT54_info
  exact ⟨i, _, h1, h2, h3, h4, rfl⟩⟩
theorem eN74_info : (Try.prog.info? 29).map (fun i => (i.zero, i.size, i.bytes)) = some (some (.agg #[.int .i64 0, .int .i64 0, .int .i64 0, .bool false]), 4, 32) := by kernel_rfl
theorem eN74 : ElemN Try.prog 74 29 4 32 := ⟨by kernel_rfl, by
  obtain ⟨i, h1, h2, h3, h4⟩ := info_parts eN74_info
  exact ⟨i, _, h1, h2, h3, h4, rfl⟩, by decide⟩
theorem us74 : Try.prog.underlying 74 = some (.slice 29) := by kernel_rfl
def i_stip_kinds.f  : Option ((List ByteArray)) := some [ByteArray.empty, (⟨#[]⟩ : ByteArray), (⟨#[115]⟩ : ByteArray), (⟨#[114]⟩ : ByteArray), (⟨#[115, 101, 109, 105, 45, 114]⟩ : ByteArray), (⟨#[104]⟩ : ByteArray), (⟨#[115, 101, 114, 45, 104]⟩ : ByteArray), (⟨#[115, 101, 114, 45]⟩ : ByteArray)]
set_option maxHeartbeats 40000000 in
set_option maxRecDepth 100000 in
theorem i_stip_kinds.calls (r1 : List ByteArray) (w : World) (h : i_stip_kinds.f = some r1) :
    Calls Try.prog 51 #[] w fun e w' => e = .returned (.agg (av Value.string r1)) ∧ r1.length = 8 ∧ Below w.heap.size w w' := by
 have HL := hid (Below.refl w.heap.size w)
 have H : (some [ByteArray.empty, (⟨#[]⟩ : ByteArray), (⟨#[115]⟩ : ByteArray), (⟨#[114]⟩ : ByteArray), (⟨#[115, 101, 109, 105, 45, 114]⟩ : ByteArray), (⟨#[104]⟩ : ByteArray), (⟨#[115, 101, 114, 45, 104]⟩ : ByteArray), (⟨#[115, 101, 114, 45]⟩ : ByteArray)]) = some r1 := h
 clear h
 obtain rfl := Option.some.inj H
 clear H
 go_enter Try.func51, Try.ntmps51
 go_wp2_with (first
  | ((with_reducible refine gate_d (N := 0) rfl ?_); obtain ⟨gb1, hgb1⟩ : ∃ g_, w.heap.size = g_ := ⟨_, rfl⟩; refine ag_alloc aT84 gb1 hgb1 rfl rfl ?_; intro w2 hb_ hB_ hs_; have GEb1 : Hid (w.heap.size ≤ gb1) := hid (by have := HL.out.size; omega); replace HL := hid (HL.out.trans (hb_.mono GEb1.out)); have BKb1 := hid hB_; clear hb_ hB_ hs_ hgb1)
  | ((with_reducible refine gate_d (N := 1) rfl ?_); refine ag_build (.agg (av Value.string [ByteArray.empty, (⟨#[]⟩ : ByteArray), (⟨#[115]⟩ : ByteArray), (⟨#[114]⟩ : ByteArray), (⟨#[115, 101, 109, 105, 45, 114]⟩ : ByteArray), (⟨#[104]⟩ : ByteArray), (⟨#[115, 101, 114, 45, 104]⟩ : ByteArray), (⟨#[115, 101, 114, 45]⟩ : ByteArray)])) _ rfl rfl ?_ ?_; (intro ww_; simp only [List.map_toArray, List.map_cons, List.map_nil]; kernel_rfl))
  | ((with_reducible refine gate_s (t := 84) (p := 0) rfl ?_); refine ag_store aT84 gb1 0 (av Value.string (List.replicate 8 (⟨#[]⟩ : ByteArray))) (av Value.string [ByteArray.empty, (⟨#[]⟩ : ByteArray), (⟨#[115]⟩ : ByteArray), (⟨#[114]⟩ : ByteArray), (⟨#[115, 101, 109, 105, 45, 114]⟩ : ByteArray), (⟨#[104]⟩ : ByteArray), (⟨#[115, 101, 114, 45, 104]⟩ : ByteArray), (⟨#[115, 101, 114, 45]⟩ : ByteArray)]) (av Value.string [ByteArray.empty, (⟨#[]⟩ : ByteArray), (⟨#[115]⟩ : ByteArray), (⟨#[114]⟩ : ByteArray), (⟨#[115, 101, 109, 105, 45, 114]⟩ : ByteArray), (⟨#[104]⟩ : ByteArray), (⟨#[115, 101, 114, 45, 104]⟩ : ByteArray), (⟨#[115, 101, 114, 45]⟩ : ByteArray)]) BKb1.out (by rw [show (av Value.string [ByteArray.empty, (⟨#[]⟩ : ByteArray), (⟨#[115]⟩ : ByteArray), (⟨#[114]⟩ : ByteArray), (⟨#[115, 101, 109, 105, 45, 114]⟩ : ByteArray), (⟨#[104]⟩ : ByteArray), (⟨#[115, 101, 114, 45, 104]⟩ : ByteArray), (⟨#[115, 101, 114, 45]⟩ : ByteArray)]) = av Value.string [ByteArray.empty, (⟨#[]⟩ : ByteArray), (⟨#[115]⟩ : ByteArray), (⟨#[114]⟩ : ByteArray), (⟨#[115, 101, 109, 105, 45, 114]⟩ : ByteArray), (⟨#[104]⟩ : ByteArray), (⟨#[115, 101, 114, 45, 104]⟩ : ByteArray), (⟨#[115, 101, 114, 45]⟩ : ByteArray)] from rfl, av_size]; exact (by first | rfl | (simp only [List.length_set, List.length_replicate, zL_len, List.length_cons, List.length_nil]; done) | (simp [zL_len]; done))) (av_le (by first | rfl | (simp only [List.length_set, List.length_replicate, zL_len, List.length_cons, List.length_nil]; done) | (simp [zL_len]; done))) (av_one (fun _ => rfl)) (av_put (by first | rfl | (simp only [List.length_set, List.length_replicate, zL_len, List.length_cons, List.length_nil]; done) | (simp [zL_len]; done)) (by first | rfl | (simp only [List.length_set, List.length_replicate, zL_len, List.length_cons, List.length_nil]; done) | (simp [zL_len]; done))) rfl _ _ rfl rfl rfl ?_; intro w3 ho_ hB_; replace HL := hid (ho_.below HL.out GEb1.out); replace BKb1 := hid hB_; clear ho_ hB_))
 (try simp only [Act.put, sI, sZ, sS])
 refine bodyPost_ret (v := .agg (av Value.string [ByteArray.empty, (⟨#[]⟩ : ByteArray), (⟨#[115]⟩ : ByteArray), (⟨#[114]⟩ : ByteArray), (⟨#[115, 101, 109, 105, 45, 114]⟩ : ByteArray), (⟨#[104]⟩ : ByteArray), (⟨#[115, 101, 114, 45, 104]⟩ : ByteArray), (⟨#[115, 101, 114, 45]⟩ : ByteArray)])) (res_c aT84 rfl _ gb1 (av Value.string [ByteArray.empty, (⟨#[]⟩ : ByteArray), (⟨#[115]⟩ : ByteArray), (⟨#[114]⟩ : ByteArray), (⟨#[115, 101, 109, 105, 45, 114]⟩ : ByteArray), (⟨#[104]⟩ : ByteArray), (⟨#[115, 101, 114, 45, 104]⟩ : ByteArray), (⟨#[115, 101, 114, 45]⟩ : ByteArray)]) BKb1.out (by rw [show (av Value.string [ByteArray.empty, (⟨#[]⟩ : ByteArray), (⟨#[115]⟩ : ByteArray), (⟨#[114]⟩ : ByteArray), (⟨#[115, 101, 109, 105, 45, 114]⟩ : ByteArray), (⟨#[104]⟩ : ByteArray), (⟨#[115, 101, 114, 45, 104]⟩ : ByteArray), (⟨#[115, 101, 114, 45]⟩ : ByteArray)]) = av Value.string [ByteArray.empty, (⟨#[]⟩ : ByteArray), (⟨#[115]⟩ : ByteArray), (⟨#[114]⟩ : ByteArray), (⟨#[115, 101, 109, 105, 45, 114]⟩ : ByteArray), (⟨#[104]⟩ : ByteArray), (⟨#[115, 101, 114, 45, 104]⟩ : ByteArray), (⟨#[115, 101, 114, 45]⟩ : ByteArray)] from rfl, av_size]; exact (by first | rfl | (simp only [List.length_set, List.length_replicate, zL_len, List.length_cons, List.length_nil]; done) | (simp [zL_len]; done))) rfl) rfl ?_
 exact ⟨by first | rfl | (simp; done) | (simp [*]; done), (by first | rfl | (simp only [List.length_set, List.length_replicate, zL_len, List.length_cons, List.length_nil]; done) | (simp [zL_len]; done)), HL.out⟩
def i_stip_goals.f  : Option ((List ByteArray)) := some [ByteArray.empty, (⟨#[35]⟩ : ByteArray), (⟨#[61]⟩ : ByteArray)]
set_option maxHeartbeats 40000000 in
set_option maxRecDepth 100000 in
theorem i_stip_goals.calls (r1 : List ByteArray) (w : World) (h : i_stip_goals.f = some r1) :
    Calls Try.prog 52 #[] w fun e w' => e = .returned (.agg (av Value.string r1)) ∧ r1.length = 3 ∧ Below w.heap.size w w' := by
 have HL := hid (Below.refl w.heap.size w)
 have H : (some [ByteArray.empty, (⟨#[35]⟩ : ByteArray), (⟨#[61]⟩ : ByteArray)]) = some r1 := h
 clear h
 obtain rfl := Option.some.inj H
 clear H
 go_enter Try.func52, Try.ntmps52
 go_wp2_with (first
  | ((with_reducible refine gate_d (N := 0) rfl ?_); obtain ⟨gb1, hgb1⟩ : ∃ g_, w.heap.size = g_ := ⟨_, rfl⟩; refine ag_alloc aT86 gb1 hgb1 rfl rfl ?_; intro w2 hb_ hB_ hs_; have GEb1 : Hid (w.heap.size ≤ gb1) := hid (by have := HL.out.size; omega); replace HL := hid (HL.out.trans (hb_.mono GEb1.out)); have BKb1 := hid hB_; clear hb_ hB_ hs_ hgb1)
  | ((with_reducible refine gate_d (N := 1) rfl ?_); refine ag_build (.agg (av Value.string [ByteArray.empty, (⟨#[35]⟩ : ByteArray), (⟨#[61]⟩ : ByteArray)])) _ rfl rfl ?_ ?_; (intro ww_; simp only [List.map_toArray, List.map_cons, List.map_nil]; kernel_rfl))
  | ((with_reducible refine gate_s (t := 86) (p := 0) rfl ?_); refine ag_store aT86 gb1 0 (av Value.string (List.replicate 3 (⟨#[]⟩ : ByteArray))) (av Value.string [ByteArray.empty, (⟨#[35]⟩ : ByteArray), (⟨#[61]⟩ : ByteArray)]) (av Value.string [ByteArray.empty, (⟨#[35]⟩ : ByteArray), (⟨#[61]⟩ : ByteArray)]) BKb1.out (by rw [show (av Value.string [ByteArray.empty, (⟨#[35]⟩ : ByteArray), (⟨#[61]⟩ : ByteArray)]) = av Value.string [ByteArray.empty, (⟨#[35]⟩ : ByteArray), (⟨#[61]⟩ : ByteArray)] from rfl, av_size]; exact (by first | rfl | (simp only [List.length_set, List.length_replicate, zL_len, List.length_cons, List.length_nil]; done) | (simp [zL_len]; done))) (av_le (by first | rfl | (simp only [List.length_set, List.length_replicate, zL_len, List.length_cons, List.length_nil]; done) | (simp [zL_len]; done))) (av_one (fun _ => rfl)) (av_put (by first | rfl | (simp only [List.length_set, List.length_replicate, zL_len, List.length_cons, List.length_nil]; done) | (simp [zL_len]; done)) (by first | rfl | (simp only [List.length_set, List.length_replicate, zL_len, List.length_cons, List.length_nil]; done) | (simp [zL_len]; done))) rfl _ _ rfl rfl rfl ?_; intro w3 ho_ hB_; replace HL := hid (ho_.below HL.out GEb1.out); replace BKb1 := hid hB_; clear ho_ hB_))
 (try simp only [Act.put, sI, sZ, sS])
 refine bodyPost_ret (v := .agg (av Value.string [ByteArray.empty, (⟨#[35]⟩ : ByteArray), (⟨#[61]⟩ : ByteArray)])) (res_c aT86 rfl _ gb1 (av Value.string [ByteArray.empty, (⟨#[35]⟩ : ByteArray), (⟨#[61]⟩ : ByteArray)]) BKb1.out (by rw [show (av Value.string [ByteArray.empty, (⟨#[35]⟩ : ByteArray), (⟨#[61]⟩ : ByteArray)]) = av Value.string [ByteArray.empty, (⟨#[35]⟩ : ByteArray), (⟨#[61]⟩ : ByteArray)] from rfl, av_size]; exact (by first | rfl | (simp only [List.length_set, List.length_replicate, zL_len, List.length_cons, List.length_nil]; done) | (simp [zL_len]; done))) rfl) rfl ?_
 exact ⟨by first | rfl | (simp; done) | (simp [*]; done), (by first | rfl | (simp only [List.length_set, List.length_replicate, zL_len, List.length_cons, List.length_nil]; done) | (simp [zL_len]; done)), HL.out⟩
mutual
def i_stip_words.l0 : Nat → List ByteArray → List (Int × Int × Int × Bool) → Int → Option ((List ByteArray) × (List (Int × Int × Int × Bool)))
  | 0, _, _, _ => none
  | k + 1, x2_0, x3_0, x6_0 => if x6_0 < 8 then (i_stip_words.l1 k x6_0 x2_0 x3_0 0) else (if x2_0.length < 8796093022208 then (if x3_0.length < 4398046511104 then (some (x2_0 ++ [(⟨#[100, 105, 97, 32]⟩ : ByteArray)], x3_0 ++ [(8, 0, 0, false)])) else (none)) else (none))
def i_stip_words.l1 : Nat → Int → List ByteArray → List (Int × Int × Int × Bool) → Int → Option ((List ByteArray) × (List (Int × Int × Int × Bool)))
  | 0, _, _, _, _ => none
  | k + 1, x6_0, x2_1, x3_1, x9_1 => if x9_1 < 3 then (if x6_0 > 0 then (if x9_1 > 0 then ((i_stip_kinds.f).bind fun t23 => (if 0 ≤ x6_0 then (if x6_0 < 8 then ((i_stip_goals.f).bind fun t24 => (if 0 ≤ x9_1 then (if (nt t23 x6_0.toNat ByteArray.empty).size + (nt t24 x9_1.toNat ByteArray.empty).size ≤ 9223372036854775807 then (if x2_1.length < 8796093022208 then (if x3_1.length < 4398046511104 then (i_stip_words.l1 k x6_0 (x2_1 ++ [(nt t23 x6_0.toNat ByteArray.empty) ++ (nt t24 x9_1.toNat ByteArray.empty)]) (x3_1 ++ [(x6_0, x9_1, 0, false)]) (wrap64 (x9_1 + 1))) else (none)) else (none)) else (none)) else (none))) else (none)) else (none))) else (i_stip_words.l1 k x6_0 x2_1 x3_1 (wrap64 (x9_1 + 1)))) else (i_stip_words.l1 k x6_0 x2_1 x3_1 (wrap64 (x9_1 + 1)))) else (i_stip_words.l0 k x2_1 x3_1 (wrap64 (x6_0 + 1)))
end
def i_stip_words.f (k : Nat)  : Option ((List ByteArray) × (List (Int × Int × Int × Bool))) := i_stip_words.l0 k ([] : List ByteArray) ([] : List (Int × Int × Int × Bool)) 0
def i_stip_words.post (r1 : List ByteArray) (r2 : List (Int × Int × Int × Bool)) (w : World) (e : Ending) (w' : World) : Prop := ∃ (u_r1 u_r2 : Value), e = .returned (.tuple #[u_r1, u_r2]) ∧ Own w' w.heap.size 9 (u_r1) (r1.map Value.string) ∧ OwnN w' w.heap.size 29 4 (u_r2) r2.length (r2.flatMap en29) ∧ Below w.heap.size w w'
set_option maxHeartbeats 40000000 in
set_option maxRecDepth 100000 in
theorem i_stip_words.calls (k : Nat) (r1 : List ByteArray) (r2 : List (Int × Int × Int × Bool)) (w : World) (h : i_stip_words.f k = some (r1, r2)) :
    Calls Try.prog 41 #[] w (i_stip_words.post r1 r2 w) := by
 have HL := hid (Below.refl w.heap.size w)
 have H : (i_stip_words.l0 k ([] : List ByteArray) ([] : List (Int × Int × Int × Bool)) 0) = some (r1, r2) := h
 clear h
 have H' := hid H
 clear H
 go_enter Try.func41, Try.ntmps41
 go_wp2_with fail
 (try simp only [Act.put, sI, sZ, sS])
 go_loopg [2, 3, 6] k (fun kq v2 v3 v6 w' => ∃ (x2_0 : List ByteArray) (ux2_0 : Value) (x3_0 : List (Int × Int × Int × Bool)) (ux3_0 : Value) (x6_0 : Int), ux2_0 = v2 ∧ ux3_0 = v3 ∧ v6 = .int .i64 x6_0 ∧ Hid (i_stip_words.l0 kq x2_0 x3_0 x6_0 = some (r1, r2)) ∧ Hid (kq ≤ k) ∧ Hid (Own w' w.heap.size 9 (ux2_0) (x2_0.map Value.string)) ∧ Hid (OwnN w' w.heap.size 29 4 (ux3_0) x3_0.length (x3_0.flatMap en29)) ∧ Hid (Below w.heap.size w w'))
 case atStart => exact ⟨([] : List ByteArray), (.slice none 0 0), ([] : List (Int × Int × Int × Bool)), (.slice none 0 0), (0 : Int), (by first | rfl | (simp; done) | (simp [*]; done)), (by first | rfl | (simp; done) | (simp [*]; done)), (by first | rfl | (simp; done) | (simp [*]; done)), H', (hid (by first | omega | (omega))), (hid (Own.nil _ _ _)), (hid (OwnN.nil _ _ _ _)), HL⟩
 case round =>
  clear H'
  clear HL
  obtain ⟨x2_0, ux2_0, x3_0, ux3_0, x6_0, rfl, rfl, rfl, HA, HK33, SWx2_0, SWx3_0, HL⟩ := hrel
  cases gk with
  | zero => exact absurd HA.out (by simp [i_stip_words.l0])
  | succ k34 =>
   have H := HA.out
   clear HA
   simp only [i_stip_words.l0] at H
   by_cases c35 : x6_0 < 8
   ·
    rw [if_pos c35] at H
    have c35b0 : decide (x6_0 < 8) = true := decide_eq_true c35
    have hc35 := hid c35
    clear c35
    have H' := hid H
    clear H
    go_wp2_with fail
    (try simp only [Act.put, sI, sZ, sS])
    go_loopg [2, 3, 9] k34 (fun kq v2 v3 v9 w' => ∃ (x2_1 : List ByteArray) (ux2_1 : Value) (x3_1 : List (Int × Int × Int × Bool)) (ux3_1 : Value) (x9_1 : Int), ux2_1 = v2 ∧ ux3_1 = v3 ∧ v9 = .int .i64 x9_1 ∧ Hid (i_stip_words.l1 kq x6_0 x2_1 x3_1 x9_1 = some (r1, r2)) ∧ Hid (kq ≤ k34) ∧ Hid (Own w' w.heap.size 9 (ux2_1) (x2_1.map Value.string)) ∧ Hid (OwnN w' w.heap.size 29 4 (ux3_1) x3_1.length (x3_1.flatMap en29)) ∧ Hid (Below w.heap.size w w'))
    case atStart => exact ⟨x2_0, (ux2_0), x3_0, (ux3_0), (0 : Int), (by first | rfl | (simp; done) | (simp [*]; done)), (by first | rfl | (simp; done) | (simp [*]; done)), (by first | rfl | (simp; done) | (simp [*]; done)), H', (hid (by first | omega | (have := HK33.out; omega))), SWx2_0, SWx3_0, HL⟩
    case round =>
     clear H'
     clear HL SWx2_0 SWx3_0
     obtain ⟨x2_1, ux2_1, x3_1, ux3_1, x9_1, rfl, rfl, rfl, HA, HK36, SWx2_1, SWx3_1, HL⟩ := hrel
     cases gk with
     | zero => exact absurd HA.out (by simp [i_stip_words.l1])
     | succ k37 =>
      have H := HA.out
      clear HA
      simp only [i_stip_words.l1] at H
      by_cases c38 : x9_1 < 3
      ·
       rw [if_pos c38] at H
       have c38b0 : decide (x9_1 < 3) = true := decide_eq_true c38
       have hc38 := hid c38
       clear c38
       by_cases c39 : x6_0 > 0
       ·
        rw [if_pos c39] at H
        have c39b0 : decide (0 < x6_0) = true := decide_eq_true c39
        have hc39 := hid c39
        clear c39
        by_cases c40 : x9_1 > 0
        ·
         rw [if_pos c40] at H
         have c40b0 : decide (0 < x9_1) = true := decide_eq_true c40
         have hc40 := hid c40
         clear c40
         replace H := Option.bind_eq_some_iff.mp H
         obtain ⟨t23, A41_, H⟩ := H
         have A41 := hid A41_
         clear A41_
         by_cases c42 : 0 ≤ x6_0
         ·
          rw [if_pos c42] at H
          have c42b0 : decide (0 ≤ x6_0) = true := decide_eq_true c42
          have hc42 := hid c42
          clear c42
          by_cases c43 : x6_0 < 8
          ·
           rw [if_pos c43] at H
           have c43b0 : decide (x6_0 < 8) = true := decide_eq_true c43
           have hc43 := hid c43
           clear c43
           replace H := Option.bind_eq_some_iff.mp H
           obtain ⟨t24, A44_, H⟩ := H
           have A44 := hid A44_
           clear A44_
           by_cases c45 : 0 ≤ x9_1
           ·
            rw [if_pos c45] at H
            have c45b0 : decide (0 ≤ x9_1) = true := decide_eq_true c45
            have hc45 := hid c45
            clear c45
            by_cases c46 : (nt t23 x6_0.toNat ByteArray.empty).size + (nt t24 x9_1.toNat ByteArray.empty).size ≤ 9223372036854775807
            ·
             rw [if_pos c46] at H
             have hc46 := hid c46
             clear c46
             by_cases c47 : x2_1.length < 8796093022208
             ·
              rw [if_pos c47] at H
              have c47b0 : decide (x2_1.length < 8796093022208) = true := decide_eq_true c47
              have hc47 := hid c47
              clear c47
              by_cases c48 : x3_1.length < 4398046511104
              ·
               rw [if_pos c48] at H
               have c48b0 : decide (x3_1.length < 4398046511104) = true := decide_eq_true c48
               have hc48 := hid c48
               clear c48
               have H' := hid H
               clear H
               go_wp2_with fail
               (try simp only [Act.put, sI, sZ, sS])
               have WR64 := i64_w
               have WR32 := i32_w
               have WR8 := u8_w
               have WRU := u32_w
               refine sq_region (fun w'_ => Below w.heap.size w w'_ ∧ Own w'_ w.heap.size 9 (ux2_1) (x2_1.map Value.string) ∧ OwnN w'_ w.heap.size 29 4 (ux3_1) x3_1.length (x3_1.flatMap en29) ∧ True) [1, 4, 8, 9] [(0, 2), (2, 2), (5, 2), (1, 0), (3, 2), (4, 0), (6, 2), (7, 2), (8, 0), (9, 0), (10, 2)] (by kernel_rfl) (by kernel_rfl) (by kernel_rfl) rfl ?_
               intro w49 hb_
               replace SWx2_1 := hid (SWx2_1.out.below hb_)
               replace SWx3_1 := hid (SWx3_1.out.below hb_)
               replace HL := hid (HL.out.trans (hb_.mono HL.out.size))
               clear hb_
               refine sq_pure (ux2_1) rfl (fun w'_ => ex_mv (.tmp 2) (.inl rfl) _ rfl) rfl rfl ?_
               intro ts_ ht_; simp only [sI, sZ, sS] at ht_; subst ht_
               refine sq_pure (.int .i64 x6_0) rfl (fun w'_ => ex_mv (.tmp 4) (.inl rfl) _ rfl) rfl rfl ?_
               intro ts_ ht_; simp only [sI, sZ, sS] at ht_; subst ht_
               refine sq_pure (.int .i64 x9_1) rfl (fun w'_ => ex_mv (.tmp 5) (.inl rfl) _ rfl) rfl rfl ?_
               intro ts_ ht_; simp only [sI, sZ, sS] at ht_; subst ht_
               refine sq_act rfl (fun Q'_ hQ_ => ?_)
               refine wl_call 51 #[] (by go_simp) rfl ((i_stip_kinds.calls t23 _ A41.out).mono ?_)
               rintro e_ w51 ⟨rfl, ln_t23, hb_⟩
               have LN_t23 := hid ln_t23
               clear ln_t23
               replace SWx2_1 := hid (SWx2_1.out.below hb_)
               replace SWx3_1 := hid (SWx3_1.out.below hb_)
               replace HL := hid (HL.out.trans (hb_.mono HL.out.size))
               clear hb_
               refine ⟨_, rfl, ?_⟩
               refine hQ_ _ _ (fun h_ => absurd h_ (by decide)) ?_
               clear hQ_ Q'_
               simp only [Act.put, sI, sZ, sS]
               refine sq_pure (.string (nt t23 x6_0.toNat ByteArray.empty)) rfl (fun w'_ => ex_ix 84 (.agg (av Value.string t23)) (.int .i64 x6_0) (.string (nt t23 x6_0.toNat ByteArray.empty)) (fun w_ => run_ixv 9 uT84 sT9 t23 LN_t23.out ByteArray.empty x6_0 hc42.out hc43.out w_) _ _ rfl rfl rfl) rfl rfl ?_
               intro ts_ ht_; simp only [sI, sZ, sS] at ht_; subst ht_
               refine sq_act rfl (fun Q'_ hQ_ => ?_)
               refine wl_call 52 #[] (by go_simp) rfl ((i_stip_goals.calls t24 _ A44.out).mono ?_)
               rintro e_ w53 ⟨rfl, ln_t24, hb_⟩
               have LN_t24 := hid ln_t24
               clear ln_t24
               replace SWx2_1 := hid (SWx2_1.out.below hb_)
               replace SWx3_1 := hid (SWx3_1.out.below hb_)
               replace HL := hid (HL.out.trans (hb_.mono HL.out.size))
               clear hb_
               refine ⟨_, rfl, ?_⟩
               refine hQ_ _ _ (fun h_ => absurd h_ (by decide)) ?_
               clear hQ_ Q'_
               simp only [Act.put, sI, sZ, sS]
               refine sq_pure (.string (nt t24 x9_1.toNat ByteArray.empty)) rfl (fun w'_ => ex_ix 86 (.agg (av Value.string t24)) (.int .i64 x9_1) (.string (nt t24 x9_1.toNat ByteArray.empty)) (fun w_ => run_ixv 9 uT86 sT9 t24 LN_t24.out ByteArray.empty x9_1 hc45.out hc38.out w_) _ _ rfl rfl rfl) rfl rfl ?_
               intro ts_ ht_; simp only [sI, sZ, sS] at ht_; subst ht_
               refine sq_pure (.string ((nt t23 x6_0.toNat ByteArray.empty) ++ (nt t24 x9_1.toNat ByteArray.empty))) rfl (fun w'_ => ex_cat 9 (nt t23 x6_0.toNat ByteArray.empty) (nt t24 x9_1.toNat ByteArray.empty) hc46.out _ _ _ rfl rfl rfl) rfl rfl ?_
               intro ts_ ht_; simp only [sI, sZ, sS] at ht_; subst ht_
               refine sq_act rfl (fun Q'_ hQ_ => ?_)
               (with_reducible refine gate_d (N := 26) rfl ?_)
               obtain ⟨gb25, hgb25⟩ : ∃ g_, w53.heap.size = g_ := ⟨_, rfl⟩
               refine ag_lit sT9 (.string ((nt t23 x6_0.toNat ByteArray.empty) ++ (nt t24 x9_1.toNat ByteArray.empty))) gb25 hgb25 rfl _ rfl rfl (fun w_ => by kernel_rfl) ?_
               intro w54 hb_ hB_ hs_
               have GEb25 : Hid (w.heap.size ≤ gb25) := hid (by have := HL.out.size; omega)
               replace SWx2_1 := hid (SWx2_1.out.below (by rw [hgb25]; exact hb_))
               replace SWx3_1 := hid (SWx3_1.out.below (by rw [hgb25]; exact hb_))
               replace HL := hid (HL.out.trans (hb_.mono GEb25.out))
               have BKb25 := hid hB_
               clear hb_ hB_ hs_ hgb25
               refine act_end ?_
               refine hQ_ _ _ (fun h_ => absurd h_ (by decide)) ?_
               clear hQ_ Q'_
               simp only [Act.put, sI, sZ, sS]
               refine sq_act rfl (fun Q'_ hQ_ => ?_)
               refine app_one eT54 w.heap.size (ux2_1) (x2_1.map Value.string) (.string ((nt t23 x6_0.toNat ByteArray.empty) ++ (nt t24 x9_1.toNat ByteArray.empty))) gb25 1 SWx2_1.out BKb25.out rfl (by have h_ := hc47.out; rw [List.length_map]; omega) (by have h_ := hc47.out; rw [List.length_map]; unfold maxLen; omega) HL.out.size rfl _ _ rfl rfl rfl ?_
               intro uo26 w55 ho_ hb_ hk_ hi_
               clear SWx2_1
               have SWo26 : Hid (Own w55 w.heap.size 9 (uo26) ((x2_1 ++ [(nt t23 x6_0.toNat ByteArray.empty) ++ (nt t24 x9_1.toNat ByteArray.empty)]).map Value.string)) := hid (by rw [List.map_append]; exact ho_)
               replace SWx3_1 := hid (SWx3_1.out.move fun g_ cs_ _ hh_ => hk_ g_ _ cs_ (by decide) hh_)
               replace HL := hid (HL.out.trans hb_)
               clear ho_ hb_ hk_ hi_ BKb25
               refine act_end ?_
               refine hQ_ _ _ (fun h_ => absurd h_ (by decide)) ?_
               clear hQ_ Q'_
               simp only [Act.put, sI, sZ, sS]
               refine sq_pure (uo26) rfl (fun w'_ => ex_mv (.tmp 27) (.inr rfl) _ rfl) rfl rfl ?_
               intro ts_ ht_; simp only [sI, sZ, sS] at ht_; subst ht_
               refine sq_end ?_
               clear WR64 WR32 WR8 WRU
               have k59 := True.intro
               go_wp2_with (first
                | ((with_reducible refine gate_d (N := 31) rfl ?_); refine ag_build (.agg #[.int .i64 x6_0, .int .i64 x9_1, .int .i64 0, .bool false]) _ rfl rfl ?_ ?_; (intro ww_; simp only [List.map_toArray, List.map_cons, List.map_nil]; kernel_rfl))
                | ((with_reducible refine gate_d (N := 32) rfl ?_); obtain ⟨gb27, hgb27⟩ : ∃ g_, w55.heap.size = g_ := ⟨_, rfl⟩; refine ag_litA (e := 29) 1 #[.int .i64 x6_0, .int .i64 x9_1, .int .i64 0, .bool false] gb27 hgb27 rfl _ rfl (fun w_ => by (try simp only [List.map_toArray, List.map_cons, List.map_nil]); kernel_rfl) ?_; intro w57 hb_ hB_ hs_; have GEb27 : Hid (w.heap.size ≤ gb27) := hid (by have := HL.out.size; omega); replace SWx3_1 := hid (SWx3_1.out.below (by rw [hgb27]; exact hb_)); replace SWo26 := hid (SWo26.out.below (by rw [hgb27]; exact hb_)); replace HL := hid (HL.out.trans (hb_.mono GEb27.out)); have BKb27 := hid hB_; clear hb_ hB_ hs_ hgb27)
                | (at_builtin; clear k59; refine app_n (len := x3_1.length) eN74 w.heap.size (ux3_1) (x3_1.flatMap en29) (en29 (x6_0, x9_1, 0, false)) gb27 1 SWx3_1.out BKb27.out rfl (by intro u_ hu_; simp [en29] at hu_; rcases hu_ with rfl | rfl | rfl | rfl <;> rfl) (by have h_ := hc48.out; omega) (by have h_ := hc48.out; unfold maxLen; omega) HL.out.size rfl _ _ rfl rfl rfl ?_; intro uo28 w58 ho_ hb_ hk_ hi_; clear SWx3_1; have SWo28 : Hid (OwnN w58 w.heap.size 29 4 (uo28) (x3_1 ++ [(x6_0, x9_1, 0, false)]).length ((x3_1 ++ [(x6_0, x9_1, 0, false)]).flatMap en29)) := hid (OwnN.snoc ho_); replace SWo26 := hid (SWo26.out.move fun g_ cs_ _ hh_ => hk_ g_ _ cs_ (by decide) hh_); replace HL := hid (HL.out.trans hb_); clear ho_ hb_ hk_ hi_ BKb27))
               (try simp only [Act.put, sI, sZ, sS])
               go_roundg k37
               case measure => have := HK33.out; have := HK36.out; omega
               case rel => exact ⟨x2_1 ++ [(nt t23 x6_0.toNat ByteArray.empty) ++ (nt t24 x9_1.toNat ByteArray.empty)], (uo26), x3_1 ++ [(x6_0, x9_1, 0, false)], (uo28), wrap64 (x9_1 + 1), (by first | rfl | (simp; done) | (simp [*]; done)), (by first | rfl | (simp; done) | (simp [*]; done)), (by first | rfl | (simp; done) | (simp [*]; done)), H', (hid (by first | omega | (have := HK33.out; have := HK36.out; omega))), SWo26, SWo28, HL⟩
              ·
               rw [if_neg c48] at H
               exact absurd H (by simp)
             ·
              rw [if_neg c47] at H
              exact absurd H (by simp)
            ·
             rw [if_neg c46] at H
             exact absurd H (by simp)
           ·
            rw [if_neg c45] at H
            exact absurd H (by simp)
          ·
           rw [if_neg c43] at H
           exact absurd H (by simp)
         ·
          rw [if_neg c42] at H
          exact absurd H (by simp)
        ·
         rw [if_neg c40] at H
         have c40b0 : decide (0 < x9_1) = false := decide_eq_false c40
         have hc40 := hid c40
         clear c40
         have H' := hid H
         clear H
         go_wp2_with fail
         (try simp only [Act.put, sI, sZ, sS])
         go_roundg k37
         case measure => have := HK33.out; have := HK36.out; omega
         case rel => exact ⟨x2_1, (ux2_1), x3_1, (ux3_1), wrap64 (x9_1 + 1), (by first | rfl | (simp; done) | (simp [*]; done)), (by first | rfl | (simp; done) | (simp [*]; done)), (by first | rfl | (simp; done) | (simp [*]; done)), H', (hid (by first | omega | (have := HK33.out; have := HK36.out; omega))), SWx2_1, SWx3_1, HL⟩
       ·
        rw [if_neg c39] at H
        have c39b0 : decide (0 < x6_0) = false := decide_eq_false c39
        have hc39 := hid c39
        clear c39
        have H' := hid H
        clear H
        go_wp2_with fail
        (try simp only [Act.put, sI, sZ, sS])
        go_roundg k37
        case measure => have := HK33.out; have := HK36.out; omega
        case rel => exact ⟨x2_1, (ux2_1), x3_1, (ux3_1), wrap64 (x9_1 + 1), (by first | rfl | (simp; done) | (simp [*]; done)), (by first | rfl | (simp; done) | (simp [*]; done)), (by first | rfl | (simp; done) | (simp [*]; done)), H', (hid (by first | omega | (have := HK33.out; have := HK36.out; omega))), SWx2_1, SWx3_1, HL⟩
      ·
       rw [if_neg c38] at H
       have c38b0 : decide (x9_1 < 3) = false := decide_eq_false c38
       have hc38 := hid c38
       clear c38
       have H' := hid H
       clear H
       go_wp2_with fail
       (try simp only [Act.put, sI, sZ, sS])
       go_roundg k37
       case measure => have := HK33.out; have := HK36.out; omega
       case rel => exact ⟨x2_1, (ux2_1), x3_1, (ux3_1), wrap64 (x6_0 + 1), (by first | rfl | (simp; done) | (simp [*]; done)), (by first | rfl | (simp; done) | (simp [*]; done)), (by first | rfl | (simp; done) | (simp [*]; done)), H', (hid (by first | omega | (have := HK33.out; have := HK36.out; omega))), SWx2_1, SWx3_1, HL⟩
   ·
    rw [if_neg c35] at H
    have c35b0 : decide (x6_0 < 8) = false := decide_eq_false c35
    have hc35 := hid c35
    clear c35
    by_cases c60 : x2_0.length < 8796093022208
    ·
     rw [if_pos c60] at H
     have c60b0 : decide (x2_0.length < 8796093022208) = true := decide_eq_true c60
     have hc60 := hid c60
     clear c60
     by_cases c61 : x3_0.length < 4398046511104
     ·
      rw [if_pos c61] at H
      have c61b0 : decide (x3_0.length < 4398046511104) = true := decide_eq_true c61
      have hc61 := hid c61
      clear c61
      simp only [Option.some.injEq, Prod.mk.injEq] at H
      obtain ⟨rfl, rfl⟩ := H
      have k64 := True.intro
      have k67 := True.intro
      go_wp2_with (first
       | ((with_reducible refine gate_d (N := 37) rfl ?_); obtain ⟨gb29, hgb29⟩ : ∃ g_, wr.heap.size = g_ := ⟨_, rfl⟩; refine ag_lit sT9 (.string (⟨#[100, 105, 97, 32]⟩ : ByteArray)) gb29 hgb29 rfl _ rfl rfl (fun w_ => by kernel_rfl) ?_; intro w62 hb_ hB_ hs_; have GEb29 : Hid (w.heap.size ≤ gb29) := hid (by have := HL.out.size; omega); replace SWx2_0 := hid (SWx2_0.out.below (by rw [hgb29]; exact hb_)); replace SWx3_0 := hid (SWx3_0.out.below (by rw [hgb29]; exact hb_)); replace HL := hid (HL.out.trans (hb_.mono GEb29.out)); have BKb29 := hid hB_; clear hb_ hB_ hs_ hgb29)
       | (at_builtin; clear k64; refine app_one eT54 w.heap.size (ux2_0) (x2_0.map Value.string) (.string (⟨#[100, 105, 97, 32]⟩ : ByteArray)) gb29 1 SWx2_0.out BKb29.out rfl (by have h_ := hc60.out; rw [List.length_map]; omega) (by have h_ := hc60.out; rw [List.length_map]; unfold maxLen; omega) HL.out.size rfl _ _ rfl rfl rfl ?_; intro uo30 w63 ho_ hb_ hk_ hi_; clear SWx2_0; have SWo30 : Hid (Own w63 w.heap.size 9 (uo30) ((x2_0 ++ [(⟨#[100, 105, 97, 32]⟩ : ByteArray)]).map Value.string)) := hid (by rw [List.map_append]; exact ho_); replace SWx3_0 := hid (SWx3_0.out.move fun g_ cs_ _ hh_ => hk_ g_ _ cs_ (by decide) hh_); replace HL := hid (HL.out.trans hb_); clear ho_ hb_ hk_ hi_ BKb29)
       | ((with_reducible refine gate_d (N := 40) rfl ?_); refine ag_build (.agg #[.int .i64 8, .int .i64 0, .int .i64 0, .bool false]) _ rfl rfl ?_ ?_; (intro ww_; simp only [List.map_toArray, List.map_cons, List.map_nil]; kernel_rfl))
       | ((with_reducible refine gate_d (N := 41) rfl ?_); obtain ⟨gb31, hgb31⟩ : ∃ g_, w63.heap.size = g_ := ⟨_, rfl⟩; refine ag_litA (e := 29) 1 #[.int .i64 8, .int .i64 0, .int .i64 0, .bool false] gb31 hgb31 rfl _ rfl (fun w_ => by (try simp only [List.map_toArray, List.map_cons, List.map_nil]); kernel_rfl) ?_; intro w65 hb_ hB_ hs_; have GEb31 : Hid (w.heap.size ≤ gb31) := hid (by have := HL.out.size; omega); replace SWx3_0 := hid (SWx3_0.out.below (by rw [hgb31]; exact hb_)); replace SWo30 := hid (SWo30.out.below (by rw [hgb31]; exact hb_)); replace HL := hid (HL.out.trans (hb_.mono GEb31.out)); have BKb31 := hid hB_; clear hb_ hB_ hs_ hgb31)
       | (at_builtin; clear k67; refine app_n (len := x3_0.length) eN74 w.heap.size (ux3_0) (x3_0.flatMap en29) (en29 (8, 0, 0, false)) gb31 1 SWx3_0.out BKb31.out rfl (by intro u_ hu_; simp [en29] at hu_; rcases hu_ with rfl | rfl | rfl | rfl <;> rfl) (by have h_ := hc61.out; omega) (by have h_ := hc61.out; unfold maxLen; omega) HL.out.size rfl _ _ rfl rfl rfl ?_; intro uo32 w66 ho_ hb_ hk_ hi_; clear SWx3_0; have SWo32 : Hid (OwnN w66 w.heap.size 29 4 (uo32) (x3_0 ++ [(8, 0, 0, false)]).length ((x3_0 ++ [(8, 0, 0, false)]).flatMap en29)) := hid (OwnN.snoc ho_); replace SWo30 := hid (SWo30.out.move fun g_ cs_ _ hh_ => hk_ g_ _ cs_ (by decide) hh_); replace HL := hid (HL.out.trans hb_); clear ho_ hb_ hk_ hi_ BKb31))
      (try simp only [Act.put, sI, sZ, sS])
      go_ret2
      exact ⟨_, _, rfl, (by exact SWo30.out), (by exact SWo32.out), HL.out⟩
     ·
      rw [if_neg c61] at H
      exact absurd H (by simp)
    ·
     rw [if_neg c60] at H
     exact absurd H (by simp)
def i_stip_halved.f (k : Nat) (a0 : ByteArray) (a1 : Int) : Option (Int × Int × Int) := if a1 < (a0.size : Int) then (if 0 ≤ a1 then (if (bt a0 a1.toNat) = (bt (⟨#[46, 53]⟩ : ByteArray) 0) then ((i_lex_Word.f k a0 a1 (⟨#[46, 53]⟩ : ByteArray)).bind fun bt2 => (some (bt2.1, 1, bt2.2.2))) else (some (a1, 0, 0))) else (none)) else (some (a1, 0, 0))
set_option maxHeartbeats 40000000 in
set_option maxRecDepth 100000 in
theorem i_stip_halved.calls (k : Nat) (a0 : ByteArray) (a1 : Int) (r1 : Int) (r2 : Int) (r3 : Int) (w : World) (h : i_stip_halved.f k a0 a1 = some (r1, r2, r3)) :
    Calls Try.prog 42 #[.string a0, .int .i64 a1] w fun e w' => e = .returned (.agg #[.int .i64 r1, .int .i64 r2, .int .i64 r3]) ∧ Below w.heap.size w w' := by
 have HL := hid (Below.refl w.heap.size w)
 have H : (if a1 < (a0.size : Int) then (if 0 ≤ a1 then (if (bt a0 a1.toNat) = (bt (⟨#[46, 53]⟩ : ByteArray) 0) then ((i_lex_Word.f k a0 a1 (⟨#[46, 53]⟩ : ByteArray)).bind fun bt2 => (some (bt2.1, 1, bt2.2.2))) else (some (a1, 0, 0))) else (none)) else (some (a1, 0, 0))) = some (r1, r2, r3) := h
 clear h
 by_cases c6 : a1 < (a0.size : Int)
 ·
  rw [if_pos c6] at H
  have c6b0 : decide (a1 < (a0.size : Int)) = true := decide_eq_true c6
  have hc6 := hid c6
  clear c6
  by_cases c7 : 0 ≤ a1
  ·
   rw [if_pos c7] at H
   have c7b0 : decide (0 ≤ a1) = true := decide_eq_true c7
   have hc7 := hid c7
   clear c7
   by_cases c8 : (bt a0 a1.toNat) = (bt (⟨#[46, 53]⟩ : ByteArray) 0)
   ·
    rw [if_pos c8] at H
    have c8b0 : ((bt a0 a1.toNat) == (bt (⟨#[46, 53]⟩ : ByteArray) 0)) = true := beq_iff_eq.mpr c8
    have c8b1 : ((bt a0 a1.toNat) != (bt (⟨#[46, 53]⟩ : ByteArray) 0)) = false := bne_eq_false_iff_eq.mpr c8
    have hc8 := hid c8
    clear c8
    replace H := Option.bind_eq_some_iff.mp H
    obtain ⟨⟨t2, t3, t4⟩, A9_, H⟩ := H
    dsimp only at H
    have A9 := hid A9_
    clear A9_
    simp only [Option.some.injEq, Prod.mk.injEq] at H
    obtain ⟨rfl, rfl, rfl⟩ := H
    go_enter Try.func42, Try.ntmps42
    go_wp2_with (first
     | ((with_reducible refine gate_d (N := 4) rfl ?_); obtain ⟨gb1, hgb1⟩ : ∃ g_, w.heap.size = g_ := ⟨_, rfl⟩; refine ag_alloc aT48 gb1 hgb1 rfl rfl ?_; intro w10 hb_ hB_ hs_; have GEb1 : Hid (w.heap.size ≤ gb1) := hid (by have := HL.out.size; omega); replace HL := hid (HL.out.trans (hb_.mono GEb1.out)); have BKb1 := hid hB_; clear hb_ hB_ hs_ hgb1))
    (try simp only [Act.put, sI, sZ, sS])
    have WR64 := i64_w
    have WR32 := i32_w
    have WR8 := u8_w
    have WRU := u32_w
    refine up_regionW (by kernel_rfl) (by kernel_rfl) ?_
    refine q_do (.int .i64 a1) (fun w'_ hc_ => ex_mv (.tmp 1) (.inl rfl) _ rfl) rfl rfl ?_
    intro ts_ ht_; simp only [sI, sZ, sS] at ht_; subst ht_
    refine q_do (.string a0) (fun w'_ hc_ => ex_mv (.tmp 0) (.inl rfl) _ rfl) rfl rfl ?_
    intro ts_ ht_; simp only [sI, sZ, sS] at ht_; subst ht_
    refine q_do (.int .i64 (a0.size : Int)) (fun w'_ hc_ => by go_simp <;> (unfold wrap64; omega)) rfl rfl ?_
    intro ts_ ht_; simp only [sI, sZ, sS] at ht_; subst ht_
    refine q_do (.bool true) (fun w'_ hc_ => by go_simp <;> (unfold wrap64; omega)) rfl rfl ?_
    intro ts_ ht_; simp only [sI, sZ, sS] at ht_; subst ht_
    refine q_do (.bool true) (fun w'_ hc_ => ex_mv (.tmp 9) (.inl rfl) _ rfl) rfl rfl ?_
    intro ts_ ht_; simp only [sI, sZ, sS] at ht_; subst ht_
    refine q_do (.string a0) (fun w'_ hc_ => ex_mv (.tmp 0) (.inl rfl) _ rfl) rfl rfl ?_
    intro ts_ ht_; simp only [sI, sZ, sS] at ht_; subst ht_
    refine q_do (.int .i64 a1) (fun w'_ hc_ => ex_mv (.tmp 1) (.inl rfl) _ rfl) rfl rfl ?_
    intro ts_ ht_; simp only [sI, sZ, sS] at ht_; subst ht_
    refine q_do (.int .u8 (bt a0 a1.toNat)) (fun w'_ hc_ => by obtain ⟨n_, hn_⟩ := hc_; exact ex_ix 9 (.string a0) (.int .i64 a1) (.int .u8 (bt a0 a1.toNat)) (ix_txt a0 a1 hc7.out hc6.out) _ _ rfl rfl rfl) rfl rfl ?_
    intro ts_ ht_; simp only [sI, sZ, sS] at ht_; subst ht_
    refine q_do (.int .u8 (bt (⟨#[46, 53]⟩ : ByteArray) 0)) (fun w'_ hc_ => by obtain ⟨n_, hn_⟩ := hc_; exact ex_ix 9 (.string (⟨#[46, 53]⟩ : ByteArray)) (.int .i64 0) (.int .u8 (bt (⟨#[46, 53]⟩ : ByteArray) 0)) (ix_txt (⟨#[46, 53]⟩ : ByteArray) 0 (by omega) (by first | omega | decide)) _ _ rfl rfl rfl) rfl rfl ?_
    intro ts_ ht_; simp only [sI, sZ, sS] at ht_; subst ht_
    refine q_do (.bool true) (fun w'_ hc_ => by go_simp <;> (unfold wrap64; omega)) rfl rfl ?_
    intro ts_ ht_; simp only [sI, sZ, sS] at ht_; subst ht_
    refine q_do (.bool true) (fun w'_ hc_ => by go_simp <;> (unfold wrap64; omega)) rfl rfl ?_
    intro ts_ ht_; simp only [sI, sZ, sS] at ht_; subst ht_
    refine q_end ?_
    rintro w8_ ⟨n_, rfl⟩
    replace BKb1 := hid (BKb1.out.below n_.below BKb1.out.lt)
    replace HL := hid (HL.out.trans (n_.below.mono HL.out.size))
    generalize n_.world = w11 at *
    clear n_ WR64 WR32 WR8 WRU
    have k12 := True.intro
    go_wp2_with (first
     | (go_at_call 31; clear k12; refine (i_lex_Word.calls k a0 a1 (⟨#[46, 53]⟩ : ByteArray) t2 t3 t4 _ A9.out).mono ?_; rintro e_ w13 ⟨rfl, hb_⟩; replace BKb1 := hid (BKb1.out.below hb_ BKb1.out.lt); replace HL := hid (HL.out.trans (hb_.mono HL.out.size)); clear hb_)
     | ((with_reducible refine gate_d (N := 5) rfl ?_); obtain ⟨gb5, hgb5⟩ : ∃ g_, w13.heap.size = g_ := ⟨_, rfl⟩; refine ag_alst aT48 #[.int .i64 t2, .int .i64 t3, .int .i64 t4] gb5 hgb5 rfl (by intro v_ hv_; simp at hv_; rcases hv_ with rfl | rfl | rfl <;> first | rfl) rfl rfl 5 rfl _ _ rfl (fun _ => rfl) (fun _ => rfl) rfl ?_; intro w14 hb_ hB_ hs_; have GEb5 : Hid (w.heap.size ≤ gb5) := hid (by have := HL.out.size; omega); have NBb1_b5 : Hid (gb1 ≠ gb5) := hid (by have := BKb1.out.lt; omega); have NBb5_b1 : Hid (gb5 ≠ gb1) := hid (by have := NBb1_b5.out; omega); replace BKb1 := hid (BKb1.out.below hb_ (by rw [← hgb5]; exact BKb1.out.lt)); replace HL := hid (HL.out.trans (hb_.mono GEb5.out)); have BKb5 := hid hB_; clear hb_ hB_ hs_ hgb5)
     | ((with_reducible refine gate_d (N := 20) rfl ?_); refine ag_fix (.pointer (some ⟨gb5, 1, none⟩)) (ex_field 48 1 (.pointer (some ⟨gb5, 0, none⟩)) (.pointer (some ⟨gb5, 1, none⟩)) (fa48_1_0 gb5) _ rfl rfl) rfl ?_)
     | ((with_reducible refine gate_s (t := 3) (p := 20) rfl ?_); refine ag_set sT3 gb5 (1) (.int .i64 1) #[.int .i64 t2, .int .i64 t3, .int .i64 t4] #[.int .i64 t2, .int .i64 1, .int .i64 t4] BKb5.out (by simp) rfl rfl rfl rfl _ _ rfl rfl rfl ?_; intro w15 ho_ hB_; replace BKb1 := hid (BKb1.out.off ho_ NBb1_b5.out); replace HL := hid (ho_.below HL.out GEb5.out); replace BKb5 := hid hB_; clear ho_ hB_)
     | ((with_reducible refine gate_d (N := 21) rfl ?_); refine ag_fix (.agg #[.int .i64 t2, .int .i64 1, .int .i64 t4]) (ex_load aT48 gb5 0 #[.int .i64 t2, .int .i64 1, .int .i64 t4] #[.int .i64 t2, .int .i64 1, .int .i64 t4] BKb5.out (by simp) rfl _ rfl rfl) rfl ?_)
     | ((with_reducible refine gate_s (t := 48) (p := 4) rfl ?_); refine ag_store aT48 gb1 0 #[.int .i64 0, .int .i64 0, .int .i64 0] #[.int .i64 t2, .int .i64 1, .int .i64 t4] #[.int .i64 t2, .int .i64 1, .int .i64 t4] BKb1.out rfl (by simp) (by intro v_ hv_; simp at hv_; rcases hv_ with rfl | rfl | rfl <;> first | rfl) rfl rfl _ _ rfl rfl rfl ?_; intro w16 ho_ hB_; replace BKb5 := hid (BKb5.out.off ho_ NBb5_b1.out); replace HL := hid (ho_.below HL.out GEb1.out); replace BKb1 := hid hB_; clear ho_ hB_))
    (try simp only [Act.put, sI, sZ, sS])
    refine bodyPost_ret (v := .agg #[.int .i64 t2, .int .i64 1, .int .i64 t4]) (res_c aT48 rfl _ gb1 #[.int .i64 t2, .int .i64 1, .int .i64 t4] BKb1.out rfl rfl) rfl ?_
    exact ⟨by first | rfl | (simp; done) | (simp [*]; done), HL.out⟩
   ·
    rw [if_neg c8] at H
    have c8b0 : ((bt a0 a1.toNat) == (bt (⟨#[46, 53]⟩ : ByteArray) 0)) = false := beq_eq_false_iff_ne.mpr c8
    have c8b1 : ((bt a0 a1.toNat) != (bt (⟨#[46, 53]⟩ : ByteArray) 0)) = true := bne_iff_ne.mpr c8
    have hc8 := hid c8
    clear c8
    simp only [Option.some.injEq, Prod.mk.injEq] at H
    obtain ⟨rfl, rfl, rfl⟩ := H
    go_enter Try.func42, Try.ntmps42
    go_wp2_with (first
     | ((with_reducible refine gate_d (N := 4) rfl ?_); obtain ⟨gb1, hgb1⟩ : ∃ g_, w.heap.size = g_ := ⟨_, rfl⟩; refine ag_alloc aT48 gb1 hgb1 rfl rfl ?_; intro w17 hb_ hB_ hs_; have GEb1 : Hid (w.heap.size ≤ gb1) := hid (by have := HL.out.size; omega); replace HL := hid (HL.out.trans (hb_.mono GEb1.out)); have BKb1 := hid hB_; clear hb_ hB_ hs_ hgb1))
    (try simp only [Act.put, sI, sZ, sS])
    have WR64 := i64_w
    have WR32 := i32_w
    have WR8 := u8_w
    have WRU := u32_w
    refine up_regionW (by kernel_rfl) (by kernel_rfl) ?_
    refine q_do (.int .i64 a1) (fun w'_ hc_ => ex_mv (.tmp 1) (.inl rfl) _ rfl) rfl rfl ?_
    intro ts_ ht_; simp only [sI, sZ, sS] at ht_; subst ht_
    refine q_do (.string a0) (fun w'_ hc_ => ex_mv (.tmp 0) (.inl rfl) _ rfl) rfl rfl ?_
    intro ts_ ht_; simp only [sI, sZ, sS] at ht_; subst ht_
    refine q_do (.int .i64 (a0.size : Int)) (fun w'_ hc_ => by go_simp <;> (unfold wrap64; omega)) rfl rfl ?_
    intro ts_ ht_; simp only [sI, sZ, sS] at ht_; subst ht_
    refine q_do (.bool true) (fun w'_ hc_ => by go_simp <;> (unfold wrap64; omega)) rfl rfl ?_
    intro ts_ ht_; simp only [sI, sZ, sS] at ht_; subst ht_
    refine q_do (.bool true) (fun w'_ hc_ => ex_mv (.tmp 9) (.inl rfl) _ rfl) rfl rfl ?_
    intro ts_ ht_; simp only [sI, sZ, sS] at ht_; subst ht_
    refine q_do (.string a0) (fun w'_ hc_ => ex_mv (.tmp 0) (.inl rfl) _ rfl) rfl rfl ?_
    intro ts_ ht_; simp only [sI, sZ, sS] at ht_; subst ht_
    refine q_do (.int .i64 a1) (fun w'_ hc_ => ex_mv (.tmp 1) (.inl rfl) _ rfl) rfl rfl ?_
    intro ts_ ht_; simp only [sI, sZ, sS] at ht_; subst ht_
    refine q_do (.int .u8 (bt a0 a1.toNat)) (fun w'_ hc_ => by obtain ⟨n_, hn_⟩ := hc_; exact ex_ix 9 (.string a0) (.int .i64 a1) (.int .u8 (bt a0 a1.toNat)) (ix_txt a0 a1 hc7.out hc6.out) _ _ rfl rfl rfl) rfl rfl ?_
    intro ts_ ht_; simp only [sI, sZ, sS] at ht_; subst ht_
    refine q_do (.int .u8 (bt (⟨#[46, 53]⟩ : ByteArray) 0)) (fun w'_ hc_ => by obtain ⟨n_, hn_⟩ := hc_; exact ex_ix 9 (.string (⟨#[46, 53]⟩ : ByteArray)) (.int .i64 0) (.int .u8 (bt (⟨#[46, 53]⟩ : ByteArray) 0)) (ix_txt (⟨#[46, 53]⟩ : ByteArray) 0 (by omega) (by first | omega | decide)) _ _ rfl rfl rfl) rfl rfl ?_
    intro ts_ ht_; simp only [sI, sZ, sS] at ht_; subst ht_
    refine q_do (.bool false) (fun w'_ hc_ => by go_simp <;> (unfold wrap64; omega)) rfl rfl ?_
    intro ts_ ht_; simp only [sI, sZ, sS] at ht_; subst ht_
    refine q_do (.bool false) (fun w'_ hc_ => by go_simp <;> (unfold wrap64; omega)) rfl rfl ?_
    intro ts_ ht_; simp only [sI, sZ, sS] at ht_; subst ht_
    refine q_end ?_
    rintro w8_ ⟨n_, rfl⟩
    replace BKb1 := hid (BKb1.out.below n_.below BKb1.out.lt)
    replace HL := hid (HL.out.trans (n_.below.mono HL.out.size))
    generalize n_.world = w18 at *
    clear n_ WR64 WR32 WR8 WRU
    go_wp2_with (first
     | ((with_reducible refine gate_d (N := 23) rfl ?_); refine ag_build (.agg #[.int .i64 a1, .int .i64 0, .int .i64 0]) _ rfl rfl ?_ ?_; (intro ww_; simp only [List.map_toArray, List.map_cons, List.map_nil]; kernel_rfl))
     | ((with_reducible refine gate_s (t := 48) (p := 4) rfl ?_); refine ag_store aT48 gb1 0 #[.int .i64 0, .int .i64 0, .int .i64 0] #[.int .i64 a1, .int .i64 0, .int .i64 0] #[.int .i64 a1, .int .i64 0, .int .i64 0] BKb1.out rfl (by simp) (by intro v_ hv_; simp at hv_; rcases hv_ with rfl | rfl | rfl <;> first | rfl) rfl rfl _ _ rfl rfl rfl ?_; intro w19 ho_ hB_; replace HL := hid (ho_.below HL.out GEb1.out); replace BKb1 := hid hB_; clear ho_ hB_))
    (try simp only [Act.put, sI, sZ, sS])
    refine bodyPost_ret (v := .agg #[.int .i64 a1, .int .i64 0, .int .i64 0]) (res_c aT48 rfl _ gb1 #[.int .i64 a1, .int .i64 0, .int .i64 0] BKb1.out rfl rfl) rfl ?_
    exact ⟨by first | rfl | (simp; done) | (simp [*]; done), HL.out⟩
  ·
   rw [if_neg c7] at H
   exact absurd H (by simp)
 ·
  rw [if_neg c6] at H
  have c6b0 : decide (a1 < (a0.size : Int)) = false := decide_eq_false c6
  have hc6 := hid c6
  clear c6
  simp only [Option.some.injEq, Prod.mk.injEq] at H
  obtain ⟨rfl, rfl, rfl⟩ := H
  go_enter Try.func42, Try.ntmps42
  go_wp2_with (first
   | ((with_reducible refine gate_d (N := 4) rfl ?_); obtain ⟨gb1, hgb1⟩ : ∃ g_, w.heap.size = g_ := ⟨_, rfl⟩; refine ag_alloc aT48 gb1 hgb1 rfl rfl ?_; intro w20 hb_ hB_ hs_; have GEb1 : Hid (w.heap.size ≤ gb1) := hid (by have := HL.out.size; omega); replace HL := hid (HL.out.trans (hb_.mono GEb1.out)); have BKb1 := hid hB_; clear hb_ hB_ hs_ hgb1))
  (try simp only [Act.put, sI, sZ, sS])
  have WR64 := i64_w
  have WR32 := i32_w
  refine up_regionW (by kernel_rfl) (by kernel_rfl) ?_
  refine q_do (.int .i64 a1) (fun w'_ hc_ => ex_mv (.tmp 1) (.inl rfl) _ rfl) rfl rfl ?_
  intro ts_ ht_; simp only [sI, sZ, sS] at ht_; subst ht_
  refine q_do (.string a0) (fun w'_ hc_ => ex_mv (.tmp 0) (.inl rfl) _ rfl) rfl rfl ?_
  intro ts_ ht_; simp only [sI, sZ, sS] at ht_; subst ht_
  refine q_do (.int .i64 (a0.size : Int)) (fun w'_ hc_ => by go_simp <;> (unfold wrap64; omega)) rfl rfl ?_
  intro ts_ ht_; simp only [sI, sZ, sS] at ht_; subst ht_
  refine q_do (.bool false) (fun w'_ hc_ => by go_simp <;> (unfold wrap64; omega)) rfl rfl ?_
  intro ts_ ht_; simp only [sI, sZ, sS] at ht_; subst ht_
  refine q_do (.bool false) (fun w'_ hc_ => ex_mv (.tmp 9) (.inl rfl) _ rfl) rfl rfl ?_
  intro ts_ ht_; simp only [sI, sZ, sS] at ht_; subst ht_
  refine q_not 4 false rfl rfl rfl ?_
  intro ts_ ht_; simp only [sI, sZ, sS] at ht_; subst ht_
  refine q_not 4 false rfl rfl rfl ?_
  intro ts_ ht_; simp only [sI, sZ, sS] at ht_; subst ht_
  refine q_not 4 false rfl rfl rfl ?_
  intro ts_ ht_; simp only [sI, sZ, sS] at ht_; subst ht_
  refine q_not 4 false rfl rfl rfl ?_
  intro ts_ ht_; simp only [sI, sZ, sS] at ht_; subst ht_
  refine q_not 4 false rfl rfl rfl ?_
  intro ts_ ht_; simp only [sI, sZ, sS] at ht_; subst ht_
  refine q_do (.bool false) (fun w'_ hc_ => by go_simp <;> (unfold wrap64; omega)) rfl rfl ?_
  intro ts_ ht_; simp only [sI, sZ, sS] at ht_; subst ht_
  refine q_end ?_
  rintro w8_ ⟨n_, rfl⟩
  replace BKb1 := hid (BKb1.out.below n_.below BKb1.out.lt)
  replace HL := hid (HL.out.trans (n_.below.mono HL.out.size))
  generalize n_.world = w21 at *
  clear n_ WR64 WR32
  go_wp2_with (first
   | ((with_reducible refine gate_d (N := 23) rfl ?_); refine ag_build (.agg #[.int .i64 a1, .int .i64 0, .int .i64 0]) _ rfl rfl ?_ ?_; (intro ww_; simp only [List.map_toArray, List.map_cons, List.map_nil]; kernel_rfl))
   | ((with_reducible refine gate_s (t := 48) (p := 4) rfl ?_); refine ag_store aT48 gb1 0 #[.int .i64 0, .int .i64 0, .int .i64 0] #[.int .i64 a1, .int .i64 0, .int .i64 0] #[.int .i64 a1, .int .i64 0, .int .i64 0] BKb1.out rfl (by simp) (by intro v_ hv_; simp at hv_; rcases hv_ with rfl | rfl | rfl <;> first | rfl) rfl rfl _ _ rfl rfl rfl ?_; intro w22 ho_ hB_; replace HL := hid (ho_.below HL.out GEb1.out); replace BKb1 := hid hB_; clear ho_ hB_))
  (try simp only [Act.put, sI, sZ, sS])
  refine bodyPost_ret (v := .agg #[.int .i64 a1, .int .i64 0, .int .i64 0]) (res_c aT48 rfl _ gb1 #[.int .i64 a1, .int .i64 0, .int .i64 0] BKb1.out rfl rfl) rfl ?_
  exact ⟨by first | rfl | (simp; done) | (simp [*]; done), HL.out⟩
def i_stip_Read.f (k : Nat) (a0 : ByteArray) (a1 : Int) : Option (Int × Int × Int × Bool × Int × Int × Int) := (i_stip_words.f k).bind fun bt3 => ((i_lex_OneOf.f k a0 a1 bt3.1).bind fun bt5 => (if bt5.2.2 = 0 then (if 0 ≤ bt5.2.1 then (if bt5.2.1 < (bt3.2.length : Int) then (if ((nt bt3.2 bt5.2.1.toNat (0, 0, 0, false)).1) = 5 then ((i_lex_Number.f k a0 bt5.1 0 64).bind fun bt11 => (if bt11.2.2 = 0 then (if bt11.2.1 = 0 then ((i_lex_Word.f k a0 bt11.1 (⟨#[46, 53]⟩ : ByteArray)).bind fun bt15 => (if bt15.2.2 = 0 then (some ((nt bt3.2 bt5.2.1.toNat (0, 0, 0, false)).1, (nt bt3.2 bt5.2.1.toNat (0, 0, 0, false)).2.1, bt11.2.1, true, bt15.1, 0, 0)) else (some (0, 0, 0, false, bt15.1, bt15.2.1, bt15.2.2)))) else ((i_stip_halved.f k a0 bt11.1).bind fun bt19 => (if bt19.2.2 = 0 then (some ((nt bt3.2 bt5.2.1.toNat (0, 0, 0, false)).1, (nt bt3.2 bt5.2.1.toNat (0, 0, 0, false)).2.1, bt11.2.1, (bt19.2.1 == 1), bt19.1, 0, 0)) else (some (0, 0, 0, false, bt19.1, 0, bt19.2.2))))) else (some (0, 0, 0, false, bt11.1, bt11.2.1, bt11.2.2)))) else ((i_lex_Number.f k a0 bt5.1 1 64).bind fun bt23 => (if bt23.2.2 = 0 then (some ((nt bt3.2 bt5.2.1.toNat (0, 0, 0, false)).1, (nt bt3.2 bt5.2.1.toNat (0, 0, 0, false)).2.1, bt23.2.1, (nt bt3.2 bt5.2.1.toNat (0, 0, 0, false)).2.2.2, bt23.1, 0, 0)) else (some (0, 0, 0, false, bt23.1, bt23.2.1, bt23.2.2))))) else (none)) else (none)) else (some (0, 0, 0, false, bt5.1, bt5.2.1, bt5.2.2))))
set_option maxHeartbeats 40000000 in
set_option maxRecDepth 100000 in
theorem i_stip_Read.calls (k : Nat) (a0 : ByteArray) (a1 : Int) (r1 : Int) (r2 : Int) (r3 : Int) (r4 : Bool) (r5 : Int) (r6 : Int) (r7 : Int) (w : World) (h : i_stip_Read.f k a0 a1 = some (r1, r2, r3, r4, r5, r6, r7)) :
    Calls Try.prog 27 #[.string a0, .int .i64 a1] w fun e w' => e = .returned (.tuple #[.agg #[.int .i64 r1, .int .i64 r2, .int .i64 r3, .bool r4], .agg #[.int .i64 r5, .int .i64 r6, .int .i64 r7]]) ∧ Below w.heap.size w w' := by
 have HL := hid (Below.refl w.heap.size w)
 have H : ((i_stip_words.f k).bind fun bt3 => ((i_lex_OneOf.f k a0 a1 bt3.1).bind fun bt5 => (if bt5.2.2 = 0 then (if 0 ≤ bt5.2.1 then (if bt5.2.1 < (bt3.2.length : Int) then (if ((nt bt3.2 bt5.2.1.toNat (0, 0, 0, false)).1) = 5 then ((i_lex_Number.f k a0 bt5.1 0 64).bind fun bt11 => (if bt11.2.2 = 0 then (if bt11.2.1 = 0 then ((i_lex_Word.f k a0 bt11.1 (⟨#[46, 53]⟩ : ByteArray)).bind fun bt15 => (if bt15.2.2 = 0 then (some ((nt bt3.2 bt5.2.1.toNat (0, 0, 0, false)).1, (nt bt3.2 bt5.2.1.toNat (0, 0, 0, false)).2.1, bt11.2.1, true, bt15.1, 0, 0)) else (some (0, 0, 0, false, bt15.1, bt15.2.1, bt15.2.2)))) else ((i_stip_halved.f k a0 bt11.1).bind fun bt19 => (if bt19.2.2 = 0 then (some ((nt bt3.2 bt5.2.1.toNat (0, 0, 0, false)).1, (nt bt3.2 bt5.2.1.toNat (0, 0, 0, false)).2.1, bt11.2.1, (bt19.2.1 == 1), bt19.1, 0, 0)) else (some (0, 0, 0, false, bt19.1, 0, bt19.2.2))))) else (some (0, 0, 0, false, bt11.1, bt11.2.1, bt11.2.2)))) else ((i_lex_Number.f k a0 bt5.1 1 64).bind fun bt23 => (if bt23.2.2 = 0 then (some ((nt bt3.2 bt5.2.1.toNat (0, 0, 0, false)).1, (nt bt3.2 bt5.2.1.toNat (0, 0, 0, false)).2.1, bt23.2.1, (nt bt3.2 bt5.2.1.toNat (0, 0, 0, false)).2.2.2, bt23.1, 0, 0)) else (some (0, 0, 0, false, bt23.1, bt23.2.1, bt23.2.2))))) else (none)) else (none)) else (some (0, 0, 0, false, bt5.1, bt5.2.1, bt5.2.2))))) = some (r1, r2, r3, r4, r5, r6, r7) := h
 clear h
 replace H := Option.bind_eq_some_iff.mp H
 obtain ⟨⟨t3, t4⟩, A27_, H⟩ := H
 dsimp only at H
 have A27 := hid A27_
 clear A27_
 have H' := hid H
 clear H
 go_enter Try.func27, Try.ntmps27
 have k31 := True.intro
 go_wp2_with (first
  | ((with_reducible refine gate_d (N := 4) rfl ?_); obtain ⟨gb1, hgb1⟩ : ∃ g_, w.heap.size = g_ := ⟨_, rfl⟩; refine ag_alloc aT29 gb1 hgb1 rfl rfl ?_; intro w29 hb_ hB_ hs_; have GEb1 : Hid (w.heap.size ≤ gb1) := hid (by have := HL.out.size; omega); replace HL := hid (HL.out.trans (hb_.mono GEb1.out)); have BKb1 := hid hB_; clear hb_ hB_ hs_ hgb1)
  | ((with_reducible refine gate_d (N := 5) rfl ?_); obtain ⟨gb2, hgb2⟩ : ∃ g_, w29.heap.size = g_ := ⟨_, rfl⟩; refine ag_alloc aT48 gb2 hgb2 rfl rfl ?_; intro w30 hb_ hB_ hs_; have GEb2 : Hid (w.heap.size ≤ gb2) := hid (by have := HL.out.size; omega); have NBb1_b2 : Hid (gb1 ≠ gb2) := hid (by have := BKb1.out.lt; omega); have NBb2_b1 : Hid (gb2 ≠ gb1) := hid (by have := NBb1_b2.out; omega); replace BKb1 := hid (BKb1.out.below hb_ (by rw [← hgb2]; exact BKb1.out.lt)); replace HL := hid (HL.out.trans (hb_.mono GEb2.out)); have BKb2 := hid hB_; clear hb_ hB_ hs_ hgb2)
  | (go_at_call 41; clear k31; refine (i_stip_words.calls k t3 t4 _ A27.out).mono ?_; rintro e_ w32 ⟨ut3, ut4, rfl, so_t3, so_t4, hb_⟩; replace so_t3 := so_t3.mono HL.out.size; replace so_t4 := so_t4.mono HL.out.size; have SWn_t3 := hid so_t3; clear so_t3; have SWn_t4 := hid so_t4; clear so_t4; replace BKb1 := hid (BKb1.out.below hb_ BKb1.out.lt); replace BKb2 := hid (BKb2.out.below hb_ BKb2.out.lt); replace HL := hid (HL.out.trans (hb_.mono HL.out.size)); clear hb_; have SWt3 := SWn_t3; clear SWn_t3; have SWt4 := SWn_t4; clear SWn_t4))
 (try simp only [Act.put, sI, sZ, sS])
 have H := H'.out
 clear H'
 replace H := Option.bind_eq_some_iff.mp H
 obtain ⟨⟨t5, t6, t7⟩, A28_, H⟩ := H
 dsimp only at H
 have A28 := hid A28_
 clear A28_
 by_cases c33 : t7 = 0
 ·
  rw [if_pos c33] at H
  have c33b0 : (t7 == 0) = true := beq_iff_eq.mpr c33
  have c33b1 : (t7 != 0) = false := bne_eq_false_iff_eq.mpr c33
  have hc33 := hid c33
  clear c33
  by_cases c34 : 0 ≤ t6
  ·
   rw [if_pos c34] at H
   have c34b0 : decide (0 ≤ t6) = true := decide_eq_true c34
   have hc34 := hid c34
   clear c34
   by_cases c35 : t6 < (t4.length : Int)
   ·
    rw [if_pos c35] at H
    have c35b0 : decide (t6 < (t4.length : Int)) = true := decide_eq_true c35
    have hc35 := hid c35
    clear c35
    by_cases c36 : ((nt t4 t6.toNat (0, 0, 0, false)).1) = 5
    ·
     rw [if_pos c36] at H
     have c36b0 : (((nt t4 t6.toNat (0, 0, 0, false)).1) == 5) = true := beq_iff_eq.mpr c36
     have c36b1 : (((nt t4 t6.toNat (0, 0, 0, false)).1) != 5) = false := bne_eq_false_iff_eq.mpr c36
     have hc36 := hid c36
     clear c36
     have H' := hid H
     clear H
     have k38 := True.intro
     go_wp2_with (first
      | (go_at_call 30; clear k38; refine (i_lex_OneOf.calls k a0 a1 (ut3) t3 t5 t6 t7 _ SWt3.out.sl A28.out).mono ?_; rintro e_ w39 ⟨rfl, hb_⟩; replace BKb1 := hid (BKb1.out.below hb_ BKb1.out.lt); replace BKb2 := hid (BKb2.out.below hb_ BKb2.out.lt); replace SWt3 := hid (SWt3.out.below hb_); replace SWt4 := hid (SWt4.out.below hb_); replace HL := hid (HL.out.trans (hb_.mono HL.out.size)); clear hb_)
      | ((with_reducible refine gate_d (N := 8) rfl ?_); obtain ⟨gb8, hgb8⟩ : ∃ g_, w39.heap.size = g_ := ⟨_, rfl⟩; refine ag_alst aT48 #[.int .i64 t5, .int .i64 t6, .int .i64 t7] gb8 hgb8 rfl (by intro v_ hv_; simp at hv_; rcases hv_ with rfl | rfl | rfl <;> first | rfl) rfl rfl 8 rfl _ _ rfl (fun _ => rfl) (fun _ => rfl) rfl ?_; intro w40 hb_ hB_ hs_; have GEb8 : Hid (w.heap.size ≤ gb8) := hid (by have := HL.out.size; omega); have NBb1_b8 : Hid (gb1 ≠ gb8) := hid (by have := BKb1.out.lt; omega); have NBb8_b1 : Hid (gb8 ≠ gb1) := hid (by have := NBb1_b8.out; omega); replace BKb1 := hid (BKb1.out.below hb_ (by rw [← hgb8]; exact BKb1.out.lt)); have NBb2_b8 : Hid (gb2 ≠ gb8) := hid (by have := BKb2.out.lt; omega); have NBb8_b2 : Hid (gb8 ≠ gb2) := hid (by have := NBb2_b8.out; omega); replace BKb2 := hid (BKb2.out.below hb_ (by rw [← hgb8]; exact BKb2.out.lt)); replace SWt3 := hid (SWt3.out.below (by rw [hgb8]; exact hb_)); replace SWt4 := hid (SWt4.out.below (by rw [hgb8]; exact hb_)); replace HL := hid (HL.out.trans (hb_.mono GEb8.out)); have BKb8 := hid hB_; clear hb_ hB_ hs_ hgb8)
      | ((with_reducible refine gate_d (N := 22) rfl ?_); refine ag_fix (.pointer (some ⟨gb8, 2, none⟩)) (ex_field 48 2 (.pointer (some ⟨gb8, 0, none⟩)) (.pointer (some ⟨gb8, 2, none⟩)) (fa48_2_0 gb8) _ rfl rfl) rfl ?_)
      | ((with_reducible refine gate_d (N := 23) rfl ?_); refine ag_fix (.int .i64 t7) (ex_get sT32 gb8 (2) (.int .i64 t7) (#[.int .i64 t5, .int .i64 t6, .int .i64 t7]) BKb8.out rfl _ rfl rfl) rfl ?_)
      | ((with_reducible refine gate_d (N := 28) rfl ?_); refine ag_fix (.pointer (some ⟨gb8, 1, none⟩)) (ex_field 48 1 (.pointer (some ⟨gb8, 0, none⟩)) (.pointer (some ⟨gb8, 1, none⟩)) (fa48_1_0 gb8) _ rfl rfl) rfl ?_)
      | ((with_reducible refine gate_d (N := 29) rfl ?_); refine ag_fix (.int .i64 t6) (ex_get sT3 gb8 (1) (.int .i64 t6) (#[.int .i64 t5, .int .i64 t6, .int .i64 t7]) BKb8.out rfl _ rfl rfl) rfl ?_)
      | ((with_reducible refine gate_d (N := 30) rfl ?_); obtain ⟨ad9, c41, hv42, HCad9_⟩ := SlN.get (l := t4) (f := en29) en29_len SWt4.out.sl (0, 0, 0, false) (i := t6) hc34.out hc35.out; have HCad9 := hid HCad9_; clear HCad9_; refine ag_fix (.pointer (some (ad9.add (t6.toNat * 4)))) (ex_satN _ _ t6 _ _ hv42 hc34.out hc35.out us74 aT29.size _ _ rfl rfl rfl) rfl ?_; clear hv42)
      | ((with_reducible refine gate_d (N := 31) rfl ?_); refine ag_fix (.agg #[.int .i64 ((nt t4 t6.toNat (0, 0, 0, false)).1), .int .i64 ((nt t4 t6.toNat (0, 0, 0, false)).2.1), .int .i64 ((nt t4 t6.toNat (0, 0, 0, false)).2.2.1), .bool ((nt t4 t6.toNat (0, 0, 0, false)).2.2.2)]) (ex_ldN aT29 _ (en29 (nt t4 t6.toNat (0, 0, 0, false))) rfl HCad9.out _ rfl rfl) rfl ?_)
      | ((with_reducible refine gate_d (N := 9) rfl ?_); obtain ⟨gb10, hgb10⟩ : ∃ g_, w40.heap.size = g_ := ⟨_, rfl⟩; refine ag_alst aT29 #[.int .i64 ((nt t4 t6.toNat (0, 0, 0, false)).1), .int .i64 ((nt t4 t6.toNat (0, 0, 0, false)).2.1), .int .i64 ((nt t4 t6.toNat (0, 0, 0, false)).2.2.1), .bool ((nt t4 t6.toNat (0, 0, 0, false)).2.2.2)] gb10 hgb10 rfl (by intro v_ hv_; simp at hv_; rcases hv_ with rfl | rfl | rfl | rfl <;> first | rfl) rfl rfl 9 rfl _ _ rfl (fun _ => rfl) (fun _ => rfl) rfl ?_; intro w43 hb_ hB_ hs_; have GEb10 : Hid (w.heap.size ≤ gb10) := hid (by have := HL.out.size; omega); have NBb1_b10 : Hid (gb1 ≠ gb10) := hid (by have := BKb1.out.lt; omega); have NBb10_b1 : Hid (gb10 ≠ gb1) := hid (by have := NBb1_b10.out; omega); replace BKb1 := hid (BKb1.out.below hb_ (by rw [← hgb10]; exact BKb1.out.lt)); have NBb2_b10 : Hid (gb2 ≠ gb10) := hid (by have := BKb2.out.lt; omega); have NBb10_b2 : Hid (gb10 ≠ gb2) := hid (by have := NBb2_b10.out; omega); replace BKb2 := hid (BKb2.out.below hb_ (by rw [← hgb10]; exact BKb2.out.lt)); have NBb8_b10 : Hid (gb8 ≠ gb10) := hid (by have := BKb8.out.lt; omega); have NBb10_b8 : Hid (gb10 ≠ gb8) := hid (by have := NBb8_b10.out; omega); replace BKb8 := hid (BKb8.out.below hb_ (by rw [← hgb10]; exact BKb8.out.lt)); replace SWt3 := hid (SWt3.out.below (by rw [hgb10]; exact hb_)); replace SWt4 := hid (SWt4.out.below (by rw [hgb10]; exact hb_)); replace HL := hid (HL.out.trans (hb_.mono GEb10.out)); have BKb10 := hid hB_; clear hb_ hB_ hs_ hgb10)
      | ((with_reducible refine gate_d (N := 32) rfl ?_); refine ag_fix (.pointer (some ⟨gb10, 0, none⟩)) (ex_field 29 0 (.pointer (some ⟨gb10, 0, none⟩)) (.pointer (some ⟨gb10, 0, none⟩)) (fa29_0_0 gb10) _ rfl rfl) rfl ?_)
      | ((with_reducible refine gate_d (N := 33) rfl ?_); refine ag_fix (.int .i64 ((nt t4 t6.toNat (0, 0, 0, false)).1)) (ex_get sT3 gb10 (0) (.int .i64 ((nt t4 t6.toNat (0, 0, 0, false)).1)) (#[.int .i64 ((nt t4 t6.toNat (0, 0, 0, false)).1), .int .i64 ((nt t4 t6.toNat (0, 0, 0, false)).2.1), .int .i64 ((nt t4 t6.toNat (0, 0, 0, false)).2.2.1), .bool ((nt t4 t6.toNat (0, 0, 0, false)).2.2.2)]) BKb10.out rfl _ rfl rfl) rfl ?_)
      | ((with_reducible refine gate_d (N := 36) rfl ?_); refine ag_fix (.pointer (some ⟨gb8, 0, none⟩)) (ex_field 48 0 (.pointer (some ⟨gb8, 0, none⟩)) (.pointer (some ⟨gb8, 0, none⟩)) (fa48_0_0 gb8) _ rfl rfl) rfl ?_)
      | ((with_reducible refine gate_d (N := 37) rfl ?_); refine ag_fix (.int .i64 t5) (ex_get sT3 gb8 (0) (.int .i64 t5) (#[.int .i64 t5, .int .i64 t6, .int .i64 t7]) BKb8.out rfl _ rfl rfl) rfl ?_))
     (try simp only [Act.put, sI, sZ, sS])
     have H := H'.out
     clear H'
     replace H := Option.bind_eq_some_iff.mp H
     obtain ⟨⟨t11, t12, t13⟩, A37_, H⟩ := H
     dsimp only at H
     have A37 := hid A37_
     clear A37_
     by_cases c44 : t13 = 0
     ·
      rw [if_pos c44] at H
      have c44b0 : (t13 == 0) = true := beq_iff_eq.mpr c44
      have c44b1 : (t13 != 0) = false := bne_eq_false_iff_eq.mpr c44
      have hc44 := hid c44
      clear c44
      by_cases c45 : t12 = 0
      ·
       rw [if_pos c45] at H
       have c45b0 : (t12 == 0) = true := beq_iff_eq.mpr c45
       have c45b1 : (t12 != 0) = false := bne_eq_false_iff_eq.mpr c45
       have hc45 := hid c45
       clear c45
       have H' := hid H
       clear H
       have k47 := True.intro
       go_wp2_with (first
        | (go_at_call 32; clear k47; refine (i_lex_Number.calls k a0 t5 0 64 t11 t12 t13 _ A37.out).mono ?_; rintro e_ w48 ⟨rfl, hb_⟩; replace BKb1 := hid (BKb1.out.below hb_ BKb1.out.lt); replace BKb2 := hid (BKb2.out.below hb_ BKb2.out.lt); replace BKb8 := hid (BKb8.out.below hb_ BKb8.out.lt); replace BKb10 := hid (BKb10.out.below hb_ BKb10.out.lt); replace SWt3 := hid (SWt3.out.below hb_); replace SWt4 := hid (SWt4.out.below hb_); replace HL := hid (HL.out.trans (hb_.mono HL.out.size)); clear hb_)
        | ((with_reducible refine gate_d (N := 11) rfl ?_); obtain ⟨gb14, hgb14⟩ : ∃ g_, w48.heap.size = g_ := ⟨_, rfl⟩; refine ag_alst aT48 #[.int .i64 t11, .int .i64 t12, .int .i64 t13] gb14 hgb14 rfl (by intro v_ hv_; simp at hv_; rcases hv_ with rfl | rfl | rfl <;> first | rfl) rfl rfl 11 rfl _ _ rfl (fun _ => rfl) (fun _ => rfl) rfl ?_; intro w49 hb_ hB_ hs_; have GEb14 : Hid (w.heap.size ≤ gb14) := hid (by have := HL.out.size; omega); have NBb1_b14 : Hid (gb1 ≠ gb14) := hid (by have := BKb1.out.lt; omega); have NBb14_b1 : Hid (gb14 ≠ gb1) := hid (by have := NBb1_b14.out; omega); replace BKb1 := hid (BKb1.out.below hb_ (by rw [← hgb14]; exact BKb1.out.lt)); have NBb2_b14 : Hid (gb2 ≠ gb14) := hid (by have := BKb2.out.lt; omega); have NBb14_b2 : Hid (gb14 ≠ gb2) := hid (by have := NBb2_b14.out; omega); replace BKb2 := hid (BKb2.out.below hb_ (by rw [← hgb14]; exact BKb2.out.lt)); have NBb8_b14 : Hid (gb8 ≠ gb14) := hid (by have := BKb8.out.lt; omega); have NBb14_b8 : Hid (gb14 ≠ gb8) := hid (by have := NBb8_b14.out; omega); replace BKb8 := hid (BKb8.out.below hb_ (by rw [← hgb14]; exact BKb8.out.lt)); have NBb10_b14 : Hid (gb10 ≠ gb14) := hid (by have := BKb10.out.lt; omega); have NBb14_b10 : Hid (gb14 ≠ gb10) := hid (by have := NBb10_b14.out; omega); replace BKb10 := hid (BKb10.out.below hb_ (by rw [← hgb14]; exact BKb10.out.lt)); replace SWt3 := hid (SWt3.out.below (by rw [hgb14]; exact hb_)); replace SWt4 := hid (SWt4.out.below (by rw [hgb14]; exact hb_)); replace HL := hid (HL.out.trans (hb_.mono GEb14.out)); have BKb14 := hid hB_; clear hb_ hB_ hs_ hgb14)
        | ((with_reducible refine gate_d (N := 40) rfl ?_); refine ag_fix (.pointer (some ⟨gb14, 2, none⟩)) (ex_field 48 2 (.pointer (some ⟨gb14, 0, none⟩)) (.pointer (some ⟨gb14, 2, none⟩)) (fa48_2_0 gb14) _ rfl rfl) rfl ?_)
        | ((with_reducible refine gate_d (N := 41) rfl ?_); refine ag_fix (.int .i64 t13) (ex_get sT32 gb14 (2) (.int .i64 t13) (#[.int .i64 t11, .int .i64 t12, .int .i64 t13]) BKb14.out rfl _ rfl rfl) rfl ?_)
        | ((with_reducible refine gate_d (N := 45) rfl ?_); refine ag_fix (.pointer (some ⟨gb14, 1, none⟩)) (ex_field 48 1 (.pointer (some ⟨gb14, 0, none⟩)) (.pointer (some ⟨gb14, 1, none⟩)) (fa48_1_0 gb14) _ rfl rfl) rfl ?_)
        | ((with_reducible refine gate_d (N := 46) rfl ?_); refine ag_fix (.int .i64 t12) (ex_get sT3 gb14 (1) (.int .i64 t12) (#[.int .i64 t11, .int .i64 t12, .int .i64 t13]) BKb14.out rfl _ rfl rfl) rfl ?_)
        | ((with_reducible refine gate_d (N := 47) rfl ?_); refine ag_fix (.pointer (some ⟨gb10, 2, none⟩)) (ex_field 29 2 (.pointer (some ⟨gb10, 0, none⟩)) (.pointer (some ⟨gb10, 2, none⟩)) (fa29_2_0 gb10) _ rfl rfl) rfl ?_)
        | ((with_reducible refine gate_s (t := 3) (p := 47) rfl ?_); refine ag_set sT3 gb10 (2) (.int .i64 t12) #[.int .i64 ((nt t4 t6.toNat (0, 0, 0, false)).1), .int .i64 ((nt t4 t6.toNat (0, 0, 0, false)).2.1), .int .i64 ((nt t4 t6.toNat (0, 0, 0, false)).2.2.1), .bool ((nt t4 t6.toNat (0, 0, 0, false)).2.2.2)] #[.int .i64 ((nt t4 t6.toNat (0, 0, 0, false)).1), .int .i64 ((nt t4 t6.toNat (0, 0, 0, false)).2.1), .int .i64 t12, .bool ((nt t4 t6.toNat (0, 0, 0, false)).2.2.2)] BKb10.out (by simp) rfl rfl rfl rfl _ _ rfl rfl rfl ?_; intro w50 ho_ hB_; replace BKb1 := hid (BKb1.out.off ho_ NBb1_b10.out); replace BKb2 := hid (BKb2.out.off ho_ NBb2_b10.out); replace BKb8 := hid (BKb8.out.off ho_ NBb8_b10.out); replace BKb14 := hid (BKb14.out.off ho_ NBb14_b10.out); clear SWt4; replace SWt3 := hid (SWt3.out.off ho_ BKb10.out (by decide)); replace HL := hid (ho_.below HL.out GEb10.out); replace BKb10 := hid hB_; clear ho_ hB_)
        | ((with_reducible refine gate_d (N := 48) rfl ?_); refine ag_fix (.pointer (some ⟨gb10, 0, none⟩)) (ex_field 29 0 (.pointer (some ⟨gb10, 0, none⟩)) (.pointer (some ⟨gb10, 0, none⟩)) (fa29_0_0 gb10) _ rfl rfl) rfl ?_)
        | ((with_reducible refine gate_d (N := 49) rfl ?_); refine ag_fix (.int .i64 ((nt t4 t6.toNat (0, 0, 0, false)).1)) (ex_get sT3 gb10 (0) (.int .i64 ((nt t4 t6.toNat (0, 0, 0, false)).1)) (#[.int .i64 ((nt t4 t6.toNat (0, 0, 0, false)).1), .int .i64 ((nt t4 t6.toNat (0, 0, 0, false)).2.1), .int .i64 t12, .bool ((nt t4 t6.toNat (0, 0, 0, false)).2.2.2)]) BKb10.out rfl _ rfl rfl) rfl ?_)
        | ((with_reducible refine gate_d (N := 55) rfl ?_); refine ag_fix (.pointer (some ⟨gb10, 2, none⟩)) (ex_field 29 2 (.pointer (some ⟨gb10, 0, none⟩)) (.pointer (some ⟨gb10, 2, none⟩)) (fa29_2_0 gb10) _ rfl rfl) rfl ?_)
        | ((with_reducible refine gate_d (N := 56) rfl ?_); refine ag_fix (.int .i64 t12) (ex_get sT3 gb10 (2) (.int .i64 t12) (#[.int .i64 ((nt t4 t6.toNat (0, 0, 0, false)).1), .int .i64 ((nt t4 t6.toNat (0, 0, 0, false)).2.1), .int .i64 t12, .bool ((nt t4 t6.toNat (0, 0, 0, false)).2.2.2)]) BKb10.out rfl _ rfl rfl) rfl ?_)
        | ((with_reducible refine gate_d (N := 59) rfl ?_); refine ag_fix (.pointer (some ⟨gb14, 0, none⟩)) (ex_field 48 0 (.pointer (some ⟨gb14, 0, none⟩)) (.pointer (some ⟨gb14, 0, none⟩)) (fa48_0_0 gb14) _ rfl rfl) rfl ?_)
        | ((with_reducible refine gate_d (N := 60) rfl ?_); refine ag_fix (.int .i64 t11) (ex_get sT3 gb14 (0) (.int .i64 t11) (#[.int .i64 t11, .int .i64 t12, .int .i64 t13]) BKb14.out rfl _ rfl rfl) rfl ?_))
       (try simp only [Act.put, sI, sZ, sS])
       have H := H'.out
       clear H'
       replace H := Option.bind_eq_some_iff.mp H
       obtain ⟨⟨t15, t16, t17⟩, A46_, H⟩ := H
       dsimp only at H
       have A46 := hid A46_
       clear A46_
       by_cases c51 : t17 = 0
       ·
        rw [if_pos c51] at H
        have c51b0 : (t17 == 0) = true := beq_iff_eq.mpr c51
        have c51b1 : (t17 != 0) = false := bne_eq_false_iff_eq.mpr c51
        have hc51 := hid c51
        clear c51
        simp only [Option.some.injEq, Prod.mk.injEq] at H
        obtain ⟨rfl, rfl, rfl, rfl, rfl, rfl, rfl⟩ := H
        have k52 := True.intro
        go_wp2_with (first
         | (go_at_call 31; clear k52; refine (i_lex_Word.calls k a0 t11 (⟨#[46, 53]⟩ : ByteArray) t15 t16 t17 _ A46.out).mono ?_; rintro e_ w53 ⟨rfl, hb_⟩; replace BKb1 := hid (BKb1.out.below hb_ BKb1.out.lt); replace BKb2 := hid (BKb2.out.below hb_ BKb2.out.lt); replace BKb8 := hid (BKb8.out.below hb_ BKb8.out.lt); replace BKb10 := hid (BKb10.out.below hb_ BKb10.out.lt); replace BKb14 := hid (BKb14.out.below hb_ BKb14.out.lt); replace SWt3 := hid (SWt3.out.below hb_); replace HL := hid (HL.out.trans (hb_.mono HL.out.size)); clear hb_)
         | ((with_reducible refine gate_d (N := 12) rfl ?_); obtain ⟨gb18, hgb18⟩ : ∃ g_, w53.heap.size = g_ := ⟨_, rfl⟩; refine ag_alst aT48 #[.int .i64 t15, .int .i64 t16, .int .i64 t17] gb18 hgb18 rfl (by intro v_ hv_; simp at hv_; rcases hv_ with rfl | rfl | rfl <;> first | rfl) rfl rfl 12 rfl _ _ rfl (fun _ => rfl) (fun _ => rfl) rfl ?_; intro w54 hb_ hB_ hs_; have GEb18 : Hid (w.heap.size ≤ gb18) := hid (by have := HL.out.size; omega); have NBb1_b18 : Hid (gb1 ≠ gb18) := hid (by have := BKb1.out.lt; omega); have NBb18_b1 : Hid (gb18 ≠ gb1) := hid (by have := NBb1_b18.out; omega); replace BKb1 := hid (BKb1.out.below hb_ (by rw [← hgb18]; exact BKb1.out.lt)); have NBb2_b18 : Hid (gb2 ≠ gb18) := hid (by have := BKb2.out.lt; omega); have NBb18_b2 : Hid (gb18 ≠ gb2) := hid (by have := NBb2_b18.out; omega); replace BKb2 := hid (BKb2.out.below hb_ (by rw [← hgb18]; exact BKb2.out.lt)); have NBb8_b18 : Hid (gb8 ≠ gb18) := hid (by have := BKb8.out.lt; omega); have NBb18_b8 : Hid (gb18 ≠ gb8) := hid (by have := NBb8_b18.out; omega); replace BKb8 := hid (BKb8.out.below hb_ (by rw [← hgb18]; exact BKb8.out.lt)); have NBb10_b18 : Hid (gb10 ≠ gb18) := hid (by have := BKb10.out.lt; omega); have NBb18_b10 : Hid (gb18 ≠ gb10) := hid (by have := NBb10_b18.out; omega); replace BKb10 := hid (BKb10.out.below hb_ (by rw [← hgb18]; exact BKb10.out.lt)); have NBb14_b18 : Hid (gb14 ≠ gb18) := hid (by have := BKb14.out.lt; omega); have NBb18_b14 : Hid (gb18 ≠ gb14) := hid (by have := NBb14_b18.out; omega); replace BKb14 := hid (BKb14.out.below hb_ (by rw [← hgb18]; exact BKb14.out.lt)); replace SWt3 := hid (SWt3.out.below (by rw [hgb18]; exact hb_)); replace HL := hid (HL.out.trans (hb_.mono GEb18.out)); have BKb18 := hid hB_; clear hb_ hB_ hs_ hgb18)
         | ((with_reducible refine gate_d (N := 62) rfl ?_); refine ag_fix (.pointer (some ⟨gb18, 2, none⟩)) (ex_field 48 2 (.pointer (some ⟨gb18, 0, none⟩)) (.pointer (some ⟨gb18, 2, none⟩)) (fa48_2_0 gb18) _ rfl rfl) rfl ?_)
         | ((with_reducible refine gate_d (N := 63) rfl ?_); refine ag_fix (.int .i64 t17) (ex_get sT32 gb18 (2) (.int .i64 t17) (#[.int .i64 t15, .int .i64 t16, .int .i64 t17]) BKb18.out rfl _ rfl rfl) rfl ?_)
         | ((with_reducible refine gate_d (N := 67) rfl ?_); refine ag_fix (.pointer (some ⟨gb10, 3, none⟩)) (ex_field 29 3 (.pointer (some ⟨gb10, 0, none⟩)) (.pointer (some ⟨gb10, 3, none⟩)) (fa29_3_0 gb10) _ rfl rfl) rfl ?_)
         | ((with_reducible refine gate_s (t := 4) (p := 67) rfl ?_); refine ag_set sT4 gb10 (3) (.bool true) #[.int .i64 ((nt t4 t6.toNat (0, 0, 0, false)).1), .int .i64 ((nt t4 t6.toNat (0, 0, 0, false)).2.1), .int .i64 t12, .bool ((nt t4 t6.toNat (0, 0, 0, false)).2.2.2)] #[.int .i64 ((nt t4 t6.toNat (0, 0, 0, false)).1), .int .i64 ((nt t4 t6.toNat (0, 0, 0, false)).2.1), .int .i64 t12, .bool true] BKb10.out (by simp) rfl rfl rfl rfl _ _ rfl rfl rfl ?_; intro w55 ho_ hB_; replace BKb1 := hid (BKb1.out.off ho_ NBb1_b10.out); replace BKb2 := hid (BKb2.out.off ho_ NBb2_b10.out); replace BKb8 := hid (BKb8.out.off ho_ NBb8_b10.out); replace BKb14 := hid (BKb14.out.off ho_ NBb14_b10.out); replace BKb18 := hid (BKb18.out.off ho_ NBb18_b10.out); replace SWt3 := hid (SWt3.out.off ho_ BKb10.out (by decide)); replace HL := hid (ho_.below HL.out GEb10.out); replace BKb10 := hid hB_; clear ho_ hB_))
        (try simp only [Act.put, sI, sZ, sS])
        have WR64 := i64_w
        have WR32 := i32_w
        have WR8 := u8_w
        have WRU := u32_w
        refine sq_region (fun w'_ => Below w.heap.size w w'_ ∧ Blk w'_ gb2 48 #[.int .i64 0, .int .i64 0, .int .i64 0] ∧ Blk w'_ gb8 48 #[.int .i64 t5, .int .i64 t6, .int .i64 t7] ∧ Blk w'_ gb10 29 #[.int .i64 ((nt t4 t6.toNat (0, 0, 0, false)).1), .int .i64 ((nt t4 t6.toNat (0, 0, 0, false)).2.1), .int .i64 t12, .bool true] ∧ Blk w'_ gb14 48 #[.int .i64 t11, .int .i64 t12, .int .i64 t13] ∧ Blk w'_ gb18 48 #[.int .i64 t15, .int .i64 t16, .int .i64 t17] ∧ Own w'_ w.heap.size 9 (ut3) (t3.map Value.string) ∧ True) [5] [(0, 1), (1, 2), (2, 1), (3, 2), (4, 0), (5, 0)] (by kernel_rfl) (by kernel_rfl) (by kernel_rfl) rfl ?_
        intro w56 hb_
        replace BKb1 := hid (BKb1.out.below hb_ BKb1.out.lt)
        replace BKb2 := hid (BKb2.out.below hb_ BKb2.out.lt)
        replace BKb8 := hid (BKb8.out.below hb_ BKb8.out.lt)
        replace BKb10 := hid (BKb10.out.below hb_ BKb10.out.lt)
        replace BKb14 := hid (BKb14.out.below hb_ BKb14.out.lt)
        replace BKb18 := hid (BKb18.out.below hb_ BKb18.out.lt)
        replace SWt3 := hid (SWt3.out.below hb_)
        replace HL := hid (HL.out.trans (hb_.mono HL.out.size))
        clear hb_
        refine sq_take (.agg #[.int .i64 ((nt t4 t6.toNat (0, 0, 0, false)).1), .int .i64 ((nt t4 t6.toNat (0, 0, 0, false)).2.1), .int .i64 t12, .bool true]) ⟨HL.out, BKb2.out, BKb8.out, BKb10.out, BKb14.out, BKb18.out, SWt3.out, trivial⟩ rfl (fun w'_ hS_ => ex_load aT29 gb10 0 #[.int .i64 ((nt t4 t6.toNat (0, 0, 0, false)).1), .int .i64 ((nt t4 t6.toNat (0, 0, 0, false)).2.1), .int .i64 t12, .bool true] #[.int .i64 ((nt t4 t6.toNat (0, 0, 0, false)).1), .int .i64 ((nt t4 t6.toNat (0, 0, 0, false)).2.1), .int .i64 t12, .bool true] hS_.2.2.2.1 (by simp) rfl _ rfl rfl) rfl rfl ?_
        intro ts_ ht_; simp only [sI, sZ, sS] at ht_; subst ht_
        refine sq_pure (.pointer (some ⟨gb18, 0, none⟩)) rfl (fun w'_ => ex_field 48 0 (.pointer (some ⟨gb18, 0, none⟩)) (.pointer (some ⟨gb18, 0, none⟩)) (fa48_0_0 gb18) _ rfl rfl) rfl rfl ?_
        intro ts_ ht_; simp only [sI, sZ, sS] at ht_; subst ht_
        refine sq_take (.int .i64 t15) ⟨HL.out, BKb2.out, BKb8.out, BKb10.out, BKb14.out, BKb18.out, SWt3.out, trivial⟩ rfl (fun w'_ hS_ => ex_get sT3 gb18 (0) (.int .i64 t15) (#[.int .i64 t15, .int .i64 t16, .int .i64 t17]) hS_.2.2.2.2.2.1 rfl _ rfl rfl) rfl rfl ?_
        intro ts_ ht_; simp only [sI, sZ, sS] at ht_; subst ht_
        refine sq_pure (.agg #[.int .i64 t15, .int .i64 0, .int .i64 0]) rfl (fun w'_ => ex_build (.agg #[.int .i64 t15, .int .i64 0, .int .i64 0]) _ rfl (by intro ww_; simp only [List.map_toArray, List.map_cons, List.map_nil]; kernel_rfl)) rfl rfl ?_
        intro ts_ ht_; simp only [sI, sZ, sS] at ht_; subst ht_
        refine sq_act rfl (fun Q'_ hQ_ => ?_)
        (with_reducible refine gate_s (t := 29) (p := 4) rfl ?_)
        refine ag_store aT29 gb1 0 #[.int .i64 0, .int .i64 0, .int .i64 0, .bool false] #[.int .i64 ((nt t4 t6.toNat (0, 0, 0, false)).1), .int .i64 ((nt t4 t6.toNat (0, 0, 0, false)).2.1), .int .i64 t12, .bool true] #[.int .i64 ((nt t4 t6.toNat (0, 0, 0, false)).1), .int .i64 ((nt t4 t6.toNat (0, 0, 0, false)).2.1), .int .i64 t12, .bool true] BKb1.out rfl (by simp) (by intro v_ hv_; simp at hv_; rcases hv_ with rfl | rfl | rfl | rfl <;> first | rfl) rfl rfl _ _ rfl rfl rfl ?_
        intro w57 ho_ hB_
        replace BKb2 := hid (BKb2.out.off ho_ NBb2_b1.out)
        replace BKb8 := hid (BKb8.out.off ho_ NBb8_b1.out)
        replace BKb10 := hid (BKb10.out.off ho_ NBb10_b1.out)
        replace BKb14 := hid (BKb14.out.off ho_ NBb14_b1.out)
        replace BKb18 := hid (BKb18.out.off ho_ NBb18_b1.out)
        replace SWt3 := hid (SWt3.out.off ho_ BKb1.out (by decide))
        replace HL := hid (ho_.below HL.out GEb1.out)
        replace BKb1 := hid hB_
        clear ho_ hB_
        refine act_end ?_
        refine hQ_ _ _ (fun _ => ⟨HL.out, BKb2.out, BKb8.out, BKb10.out, BKb14.out, BKb18.out, SWt3.out, trivial⟩) ?_
        clear hQ_ Q'_
        simp only [Act.put]
        refine sq_act rfl (fun Q'_ hQ_ => ?_)
        (with_reducible refine gate_s (t := 48) (p := 5) rfl ?_)
        refine ag_store aT48 gb2 0 #[.int .i64 0, .int .i64 0, .int .i64 0] #[.int .i64 t15, .int .i64 0, .int .i64 0] #[.int .i64 t15, .int .i64 0, .int .i64 0] BKb2.out rfl (by simp) (by intro v_ hv_; simp at hv_; rcases hv_ with rfl | rfl | rfl <;> first | rfl) rfl rfl _ _ rfl rfl rfl ?_
        intro w58 ho_ hB_
        replace BKb1 := hid (BKb1.out.off ho_ NBb1_b2.out)
        replace BKb8 := hid (BKb8.out.off ho_ NBb8_b2.out)
        replace BKb10 := hid (BKb10.out.off ho_ NBb10_b2.out)
        replace BKb14 := hid (BKb14.out.off ho_ NBb14_b2.out)
        replace BKb18 := hid (BKb18.out.off ho_ NBb18_b2.out)
        replace SWt3 := hid (SWt3.out.off ho_ BKb2.out (by decide))
        replace HL := hid (ho_.below HL.out GEb2.out)
        replace BKb2 := hid hB_
        clear ho_ hB_
        refine act_end ?_
        refine hQ_ _ _ (fun h_ => absurd h_ (by decide)) ?_
        clear hQ_ Q'_
        simp only [Act.put]
        refine sq_end ?_
        clear WR64 WR32 WR8 WRU
        go_wp2_with fail
        (try simp only [Act.put, sI, sZ, sS])
        refine bodyPost_ret (v := .tuple #[.agg #[.int .i64 ((nt t4 t6.toNat (0, 0, 0, false)).1), .int .i64 ((nt t4 t6.toNat (0, 0, 0, false)).2.1), .int .i64 t12, .bool true], .agg #[.int .i64 t15, .int .i64 0, .int .i64 0]]) (res_cc aT29 aT48 rfl _ gb1 gb2 #[.int .i64 ((nt t4 t6.toNat (0, 0, 0, false)).1), .int .i64 ((nt t4 t6.toNat (0, 0, 0, false)).2.1), .int .i64 t12, .bool true] #[.int .i64 t15, .int .i64 0, .int .i64 0] BKb1.out rfl rfl BKb2.out rfl rfl) rfl ?_
        exact ⟨by first | rfl | (simp; done) | (simp [*]; done), HL.out⟩
       ·
        rw [if_neg c51] at H
        have c51b0 : (t17 == 0) = false := beq_eq_false_iff_ne.mpr c51
        have c51b1 : (t17 != 0) = true := bne_iff_ne.mpr c51
        have hc51 := hid c51
        clear c51
        simp only [Option.some.injEq, Prod.mk.injEq] at H
        obtain ⟨rfl, rfl, rfl, rfl, rfl, rfl, rfl⟩ := H
        have k59 := True.intro
        go_wp2_with (first
         | (go_at_call 31; clear k59; refine (i_lex_Word.calls k a0 t11 (⟨#[46, 53]⟩ : ByteArray) t15 t16 t17 _ A46.out).mono ?_; rintro e_ w60 ⟨rfl, hb_⟩; replace BKb1 := hid (BKb1.out.below hb_ BKb1.out.lt); replace BKb2 := hid (BKb2.out.below hb_ BKb2.out.lt); replace BKb8 := hid (BKb8.out.below hb_ BKb8.out.lt); replace BKb10 := hid (BKb10.out.below hb_ BKb10.out.lt); replace BKb14 := hid (BKb14.out.below hb_ BKb14.out.lt); replace SWt3 := hid (SWt3.out.below hb_); replace HL := hid (HL.out.trans (hb_.mono HL.out.size)); clear hb_)
         | ((with_reducible refine gate_d (N := 12) rfl ?_); obtain ⟨gb18, hgb18⟩ : ∃ g_, w60.heap.size = g_ := ⟨_, rfl⟩; refine ag_alst aT48 #[.int .i64 t15, .int .i64 t16, .int .i64 t17] gb18 hgb18 rfl (by intro v_ hv_; simp at hv_; rcases hv_ with rfl | rfl | rfl <;> first | rfl) rfl rfl 12 rfl _ _ rfl (fun _ => rfl) (fun _ => rfl) rfl ?_; intro w61 hb_ hB_ hs_; have GEb18 : Hid (w.heap.size ≤ gb18) := hid (by have := HL.out.size; omega); have NBb1_b18 : Hid (gb1 ≠ gb18) := hid (by have := BKb1.out.lt; omega); have NBb18_b1 : Hid (gb18 ≠ gb1) := hid (by have := NBb1_b18.out; omega); replace BKb1 := hid (BKb1.out.below hb_ (by rw [← hgb18]; exact BKb1.out.lt)); have NBb2_b18 : Hid (gb2 ≠ gb18) := hid (by have := BKb2.out.lt; omega); have NBb18_b2 : Hid (gb18 ≠ gb2) := hid (by have := NBb2_b18.out; omega); replace BKb2 := hid (BKb2.out.below hb_ (by rw [← hgb18]; exact BKb2.out.lt)); have NBb8_b18 : Hid (gb8 ≠ gb18) := hid (by have := BKb8.out.lt; omega); have NBb18_b8 : Hid (gb18 ≠ gb8) := hid (by have := NBb8_b18.out; omega); replace BKb8 := hid (BKb8.out.below hb_ (by rw [← hgb18]; exact BKb8.out.lt)); have NBb10_b18 : Hid (gb10 ≠ gb18) := hid (by have := BKb10.out.lt; omega); have NBb18_b10 : Hid (gb18 ≠ gb10) := hid (by have := NBb10_b18.out; omega); replace BKb10 := hid (BKb10.out.below hb_ (by rw [← hgb18]; exact BKb10.out.lt)); have NBb14_b18 : Hid (gb14 ≠ gb18) := hid (by have := BKb14.out.lt; omega); have NBb18_b14 : Hid (gb18 ≠ gb14) := hid (by have := NBb14_b18.out; omega); replace BKb14 := hid (BKb14.out.below hb_ (by rw [← hgb18]; exact BKb14.out.lt)); replace SWt3 := hid (SWt3.out.below (by rw [hgb18]; exact hb_)); replace HL := hid (HL.out.trans (hb_.mono GEb18.out)); have BKb18 := hid hB_; clear hb_ hB_ hs_ hgb18)
         | ((with_reducible refine gate_d (N := 62) rfl ?_); refine ag_fix (.pointer (some ⟨gb18, 2, none⟩)) (ex_field 48 2 (.pointer (some ⟨gb18, 0, none⟩)) (.pointer (some ⟨gb18, 2, none⟩)) (fa48_2_0 gb18) _ rfl rfl) rfl ?_)
         | ((with_reducible refine gate_d (N := 63) rfl ?_); refine ag_fix (.int .i64 t17) (ex_get sT32 gb18 (2) (.int .i64 t17) (#[.int .i64 t15, .int .i64 t16, .int .i64 t17]) BKb18.out rfl _ rfl rfl) rfl ?_))
        (try simp only [Act.put, sI, sZ, sS])
        have WR64 := i64_w
        have WR32 := i32_w
        have WR8 := u8_w
        have WRU := u32_w
        refine sq_region (fun w'_ => Below w.heap.size w w'_ ∧ Blk w'_ gb2 48 #[.int .i64 0, .int .i64 0, .int .i64 0] ∧ Blk w'_ gb8 48 #[.int .i64 t5, .int .i64 t6, .int .i64 t7] ∧ Blk w'_ gb10 29 #[.int .i64 ((nt t4 t6.toNat (0, 0, 0, false)).1), .int .i64 ((nt t4 t6.toNat (0, 0, 0, false)).2.1), .int .i64 t12, .bool ((nt t4 t6.toNat (0, 0, 0, false)).2.2.2)] ∧ Blk w'_ gb14 48 #[.int .i64 t11, .int .i64 t12, .int .i64 t13] ∧ Blk w'_ gb18 48 #[.int .i64 t15, .int .i64 t16, .int .i64 t17] ∧ Own w'_ w.heap.size 9 (ut3) (t3.map Value.string) ∧ True) [3] [(0, 2), (1, 1), (2, 0), (3, 0)] (by kernel_rfl) (by kernel_rfl) (by kernel_rfl) rfl ?_
        intro w62 hb_
        replace BKb1 := hid (BKb1.out.below hb_ BKb1.out.lt)
        replace BKb2 := hid (BKb2.out.below hb_ BKb2.out.lt)
        replace BKb8 := hid (BKb8.out.below hb_ BKb8.out.lt)
        replace BKb10 := hid (BKb10.out.below hb_ BKb10.out.lt)
        replace BKb14 := hid (BKb14.out.below hb_ BKb14.out.lt)
        replace BKb18 := hid (BKb18.out.below hb_ BKb18.out.lt)
        replace SWt3 := hid (SWt3.out.below hb_)
        replace HL := hid (HL.out.trans (hb_.mono HL.out.size))
        clear hb_
        refine sq_pure (.agg #[.int .i64 0, .int .i64 0, .int .i64 0, .bool false]) rfl (fun w'_ => ex_build (.agg #[.int .i64 0, .int .i64 0, .int .i64 0, .bool false]) _ rfl (by intro ww_; kernel_rfl)) rfl rfl ?_
        intro ts_ ht_; simp only [sI, sZ, sS] at ht_; subst ht_
        refine sq_take (.agg #[.int .i64 t15, .int .i64 t16, .int .i64 t17]) ⟨HL.out, BKb2.out, BKb8.out, BKb10.out, BKb14.out, BKb18.out, SWt3.out, trivial⟩ rfl (fun w'_ hS_ => ex_load aT48 gb18 0 #[.int .i64 t15, .int .i64 t16, .int .i64 t17] #[.int .i64 t15, .int .i64 t16, .int .i64 t17] hS_.2.2.2.2.2.1 (by simp) rfl _ rfl rfl) rfl rfl ?_
        intro ts_ ht_; simp only [sI, sZ, sS] at ht_; subst ht_
        refine sq_act rfl (fun Q'_ hQ_ => ?_)
        (with_reducible refine gate_s (t := 29) (p := 4) rfl ?_)
        refine ag_store aT29 gb1 0 #[.int .i64 0, .int .i64 0, .int .i64 0, .bool false] #[.int .i64 0, .int .i64 0, .int .i64 0, .bool false] #[.int .i64 0, .int .i64 0, .int .i64 0, .bool false] BKb1.out rfl (by simp) (by intro v_ hv_; simp at hv_; rcases hv_ with rfl | rfl | rfl | rfl <;> first | rfl) rfl rfl _ _ rfl rfl rfl ?_
        intro w63 ho_ hB_
        replace BKb2 := hid (BKb2.out.off ho_ NBb2_b1.out)
        replace BKb8 := hid (BKb8.out.off ho_ NBb8_b1.out)
        replace BKb10 := hid (BKb10.out.off ho_ NBb10_b1.out)
        replace BKb14 := hid (BKb14.out.off ho_ NBb14_b1.out)
        replace BKb18 := hid (BKb18.out.off ho_ NBb18_b1.out)
        replace SWt3 := hid (SWt3.out.off ho_ BKb1.out (by decide))
        replace HL := hid (ho_.below HL.out GEb1.out)
        replace BKb1 := hid hB_
        clear ho_ hB_
        refine act_end ?_
        refine hQ_ _ _ (fun _ => ⟨HL.out, BKb2.out, BKb8.out, BKb10.out, BKb14.out, BKb18.out, SWt3.out, trivial⟩) ?_
        clear hQ_ Q'_
        simp only [Act.put]
        refine sq_act rfl (fun Q'_ hQ_ => ?_)
        (with_reducible refine gate_s (t := 48) (p := 5) rfl ?_)
        refine ag_store aT48 gb2 0 #[.int .i64 0, .int .i64 0, .int .i64 0] #[.int .i64 t15, .int .i64 t16, .int .i64 t17] #[.int .i64 t15, .int .i64 t16, .int .i64 t17] BKb2.out rfl (by simp) (by intro v_ hv_; simp at hv_; rcases hv_ with rfl | rfl | rfl <;> first | rfl) rfl rfl _ _ rfl rfl rfl ?_
        intro w64 ho_ hB_
        replace BKb1 := hid (BKb1.out.off ho_ NBb1_b2.out)
        replace BKb8 := hid (BKb8.out.off ho_ NBb8_b2.out)
        replace BKb10 := hid (BKb10.out.off ho_ NBb10_b2.out)
        replace BKb14 := hid (BKb14.out.off ho_ NBb14_b2.out)
        replace BKb18 := hid (BKb18.out.off ho_ NBb18_b2.out)
        replace SWt3 := hid (SWt3.out.off ho_ BKb2.out (by decide))
        replace HL := hid (ho_.below HL.out GEb2.out)
        replace BKb2 := hid hB_
        clear ho_ hB_
        refine act_end ?_
        refine hQ_ _ _ (fun h_ => absurd h_ (by decide)) ?_
        clear hQ_ Q'_
        simp only [Act.put]
        refine sq_end ?_
        clear WR64 WR32 WR8 WRU
        go_wp2_with fail
        (try simp only [Act.put, sI, sZ, sS])
        refine bodyPost_ret (v := .tuple #[.agg #[.int .i64 0, .int .i64 0, .int .i64 0, .bool false], .agg #[.int .i64 t15, .int .i64 t16, .int .i64 t17]]) (res_cc aT29 aT48 rfl _ gb1 gb2 #[.int .i64 0, .int .i64 0, .int .i64 0, .bool false] #[.int .i64 t15, .int .i64 t16, .int .i64 t17] BKb1.out rfl rfl BKb2.out rfl rfl) rfl ?_
        exact ⟨by first | rfl | (simp; done) | (simp [*]; done), HL.out⟩
      ·
       rw [if_neg c45] at H
       have c45b0 : (t12 == 0) = false := beq_eq_false_iff_ne.mpr c45
       have c45b1 : (t12 != 0) = true := bne_iff_ne.mpr c45
       have hc45 := hid c45
       clear c45
       have H' := hid H
       clear H
       have k66 := True.intro
       go_wp2_with (first
        | (go_at_call 32; clear k66; refine (i_lex_Number.calls k a0 t5 0 64 t11 t12 t13 _ A37.out).mono ?_; rintro e_ w67 ⟨rfl, hb_⟩; replace BKb1 := hid (BKb1.out.below hb_ BKb1.out.lt); replace BKb2 := hid (BKb2.out.below hb_ BKb2.out.lt); replace BKb8 := hid (BKb8.out.below hb_ BKb8.out.lt); replace BKb10 := hid (BKb10.out.below hb_ BKb10.out.lt); replace SWt3 := hid (SWt3.out.below hb_); replace SWt4 := hid (SWt4.out.below hb_); replace HL := hid (HL.out.trans (hb_.mono HL.out.size)); clear hb_)
        | ((with_reducible refine gate_d (N := 11) rfl ?_); obtain ⟨gb14, hgb14⟩ : ∃ g_, w67.heap.size = g_ := ⟨_, rfl⟩; refine ag_alst aT48 #[.int .i64 t11, .int .i64 t12, .int .i64 t13] gb14 hgb14 rfl (by intro v_ hv_; simp at hv_; rcases hv_ with rfl | rfl | rfl <;> first | rfl) rfl rfl 11 rfl _ _ rfl (fun _ => rfl) (fun _ => rfl) rfl ?_; intro w68 hb_ hB_ hs_; have GEb14 : Hid (w.heap.size ≤ gb14) := hid (by have := HL.out.size; omega); have NBb1_b14 : Hid (gb1 ≠ gb14) := hid (by have := BKb1.out.lt; omega); have NBb14_b1 : Hid (gb14 ≠ gb1) := hid (by have := NBb1_b14.out; omega); replace BKb1 := hid (BKb1.out.below hb_ (by rw [← hgb14]; exact BKb1.out.lt)); have NBb2_b14 : Hid (gb2 ≠ gb14) := hid (by have := BKb2.out.lt; omega); have NBb14_b2 : Hid (gb14 ≠ gb2) := hid (by have := NBb2_b14.out; omega); replace BKb2 := hid (BKb2.out.below hb_ (by rw [← hgb14]; exact BKb2.out.lt)); have NBb8_b14 : Hid (gb8 ≠ gb14) := hid (by have := BKb8.out.lt; omega); have NBb14_b8 : Hid (gb14 ≠ gb8) := hid (by have := NBb8_b14.out; omega); replace BKb8 := hid (BKb8.out.below hb_ (by rw [← hgb14]; exact BKb8.out.lt)); have NBb10_b14 : Hid (gb10 ≠ gb14) := hid (by have := BKb10.out.lt; omega); have NBb14_b10 : Hid (gb14 ≠ gb10) := hid (by have := NBb10_b14.out; omega); replace BKb10 := hid (BKb10.out.below hb_ (by rw [← hgb14]; exact BKb10.out.lt)); replace SWt3 := hid (SWt3.out.below (by rw [hgb14]; exact hb_)); replace SWt4 := hid (SWt4.out.below (by rw [hgb14]; exact hb_)); replace HL := hid (HL.out.trans (hb_.mono GEb14.out)); have BKb14 := hid hB_; clear hb_ hB_ hs_ hgb14)
        | ((with_reducible refine gate_d (N := 40) rfl ?_); refine ag_fix (.pointer (some ⟨gb14, 2, none⟩)) (ex_field 48 2 (.pointer (some ⟨gb14, 0, none⟩)) (.pointer (some ⟨gb14, 2, none⟩)) (fa48_2_0 gb14) _ rfl rfl) rfl ?_)
        | ((with_reducible refine gate_d (N := 41) rfl ?_); refine ag_fix (.int .i64 t13) (ex_get sT32 gb14 (2) (.int .i64 t13) (#[.int .i64 t11, .int .i64 t12, .int .i64 t13]) BKb14.out rfl _ rfl rfl) rfl ?_)
        | ((with_reducible refine gate_d (N := 45) rfl ?_); refine ag_fix (.pointer (some ⟨gb14, 1, none⟩)) (ex_field 48 1 (.pointer (some ⟨gb14, 0, none⟩)) (.pointer (some ⟨gb14, 1, none⟩)) (fa48_1_0 gb14) _ rfl rfl) rfl ?_)
        | ((with_reducible refine gate_d (N := 46) rfl ?_); refine ag_fix (.int .i64 t12) (ex_get sT3 gb14 (1) (.int .i64 t12) (#[.int .i64 t11, .int .i64 t12, .int .i64 t13]) BKb14.out rfl _ rfl rfl) rfl ?_)
        | ((with_reducible refine gate_d (N := 47) rfl ?_); refine ag_fix (.pointer (some ⟨gb10, 2, none⟩)) (ex_field 29 2 (.pointer (some ⟨gb10, 0, none⟩)) (.pointer (some ⟨gb10, 2, none⟩)) (fa29_2_0 gb10) _ rfl rfl) rfl ?_)
        | ((with_reducible refine gate_s (t := 3) (p := 47) rfl ?_); refine ag_set sT3 gb10 (2) (.int .i64 t12) #[.int .i64 ((nt t4 t6.toNat (0, 0, 0, false)).1), .int .i64 ((nt t4 t6.toNat (0, 0, 0, false)).2.1), .int .i64 ((nt t4 t6.toNat (0, 0, 0, false)).2.2.1), .bool ((nt t4 t6.toNat (0, 0, 0, false)).2.2.2)] #[.int .i64 ((nt t4 t6.toNat (0, 0, 0, false)).1), .int .i64 ((nt t4 t6.toNat (0, 0, 0, false)).2.1), .int .i64 t12, .bool ((nt t4 t6.toNat (0, 0, 0, false)).2.2.2)] BKb10.out (by simp) rfl rfl rfl rfl _ _ rfl rfl rfl ?_; intro w69 ho_ hB_; replace BKb1 := hid (BKb1.out.off ho_ NBb1_b10.out); replace BKb2 := hid (BKb2.out.off ho_ NBb2_b10.out); replace BKb8 := hid (BKb8.out.off ho_ NBb8_b10.out); replace BKb14 := hid (BKb14.out.off ho_ NBb14_b10.out); clear SWt4; replace SWt3 := hid (SWt3.out.off ho_ BKb10.out (by decide)); replace HL := hid (ho_.below HL.out GEb10.out); replace BKb10 := hid hB_; clear ho_ hB_)
        | ((with_reducible refine gate_d (N := 48) rfl ?_); refine ag_fix (.pointer (some ⟨gb10, 0, none⟩)) (ex_field 29 0 (.pointer (some ⟨gb10, 0, none⟩)) (.pointer (some ⟨gb10, 0, none⟩)) (fa29_0_0 gb10) _ rfl rfl) rfl ?_)
        | ((with_reducible refine gate_d (N := 49) rfl ?_); refine ag_fix (.int .i64 ((nt t4 t6.toNat (0, 0, 0, false)).1)) (ex_get sT3 gb10 (0) (.int .i64 ((nt t4 t6.toNat (0, 0, 0, false)).1)) (#[.int .i64 ((nt t4 t6.toNat (0, 0, 0, false)).1), .int .i64 ((nt t4 t6.toNat (0, 0, 0, false)).2.1), .int .i64 t12, .bool ((nt t4 t6.toNat (0, 0, 0, false)).2.2.2)]) BKb10.out rfl _ rfl rfl) rfl ?_)
        | ((with_reducible refine gate_d (N := 55) rfl ?_); refine ag_fix (.pointer (some ⟨gb10, 2, none⟩)) (ex_field 29 2 (.pointer (some ⟨gb10, 0, none⟩)) (.pointer (some ⟨gb10, 2, none⟩)) (fa29_2_0 gb10) _ rfl rfl) rfl ?_)
        | ((with_reducible refine gate_d (N := 56) rfl ?_); refine ag_fix (.int .i64 t12) (ex_get sT3 gb10 (2) (.int .i64 t12) (#[.int .i64 ((nt t4 t6.toNat (0, 0, 0, false)).1), .int .i64 ((nt t4 t6.toNat (0, 0, 0, false)).2.1), .int .i64 t12, .bool ((nt t4 t6.toNat (0, 0, 0, false)).2.2.2)]) BKb10.out rfl _ rfl rfl) rfl ?_)
        | ((with_reducible refine gate_d (N := 73) rfl ?_); refine ag_fix (.pointer (some ⟨gb14, 0, none⟩)) (ex_field 48 0 (.pointer (some ⟨gb14, 0, none⟩)) (.pointer (some ⟨gb14, 0, none⟩)) (fa48_0_0 gb14) _ rfl rfl) rfl ?_)
        | ((with_reducible refine gate_d (N := 74) rfl ?_); refine ag_fix (.int .i64 t11) (ex_get sT3 gb14 (0) (.int .i64 t11) (#[.int .i64 t11, .int .i64 t12, .int .i64 t13]) BKb14.out rfl _ rfl rfl) rfl ?_))
       (try simp only [Act.put, sI, sZ, sS])
       have H := H'.out
       clear H'
       replace H := Option.bind_eq_some_iff.mp H
       obtain ⟨⟨t19, t20, t21⟩, A65_, H⟩ := H
       dsimp only at H
       have A65 := hid A65_
       clear A65_
       by_cases c70 : t21 = 0
       ·
        rw [if_pos c70] at H
        have c70b0 : (t21 == 0) = true := beq_iff_eq.mpr c70
        have c70b1 : (t21 != 0) = false := bne_eq_false_iff_eq.mpr c70
        have hc70 := hid c70
        clear c70
        simp only [Option.some.injEq, Prod.mk.injEq] at H
        obtain ⟨rfl, rfl, rfl, rfl, rfl, rfl, rfl⟩ := H
        have k71 := True.intro
        go_wp2_with (first
         | (go_at_call 42; clear k71; refine (i_stip_halved.calls k a0 t11 t19 t20 t21 _ A65.out).mono ?_; rintro e_ w72 ⟨rfl, hb_⟩; replace BKb1 := hid (BKb1.out.below hb_ BKb1.out.lt); replace BKb2 := hid (BKb2.out.below hb_ BKb2.out.lt); replace BKb8 := hid (BKb8.out.below hb_ BKb8.out.lt); replace BKb10 := hid (BKb10.out.below hb_ BKb10.out.lt); replace BKb14 := hid (BKb14.out.below hb_ BKb14.out.lt); replace SWt3 := hid (SWt3.out.below hb_); replace HL := hid (HL.out.trans (hb_.mono HL.out.size)); clear hb_)
         | ((with_reducible refine gate_d (N := 13) rfl ?_); obtain ⟨gb22, hgb22⟩ : ∃ g_, w72.heap.size = g_ := ⟨_, rfl⟩; refine ag_alst aT48 #[.int .i64 t19, .int .i64 t20, .int .i64 t21] gb22 hgb22 rfl (by intro v_ hv_; simp at hv_; rcases hv_ with rfl | rfl | rfl <;> first | rfl) rfl rfl 13 rfl _ _ rfl (fun _ => rfl) (fun _ => rfl) rfl ?_; intro w73 hb_ hB_ hs_; have GEb22 : Hid (w.heap.size ≤ gb22) := hid (by have := HL.out.size; omega); have NBb1_b22 : Hid (gb1 ≠ gb22) := hid (by have := BKb1.out.lt; omega); have NBb22_b1 : Hid (gb22 ≠ gb1) := hid (by have := NBb1_b22.out; omega); replace BKb1 := hid (BKb1.out.below hb_ (by rw [← hgb22]; exact BKb1.out.lt)); have NBb2_b22 : Hid (gb2 ≠ gb22) := hid (by have := BKb2.out.lt; omega); have NBb22_b2 : Hid (gb22 ≠ gb2) := hid (by have := NBb2_b22.out; omega); replace BKb2 := hid (BKb2.out.below hb_ (by rw [← hgb22]; exact BKb2.out.lt)); have NBb8_b22 : Hid (gb8 ≠ gb22) := hid (by have := BKb8.out.lt; omega); have NBb22_b8 : Hid (gb22 ≠ gb8) := hid (by have := NBb8_b22.out; omega); replace BKb8 := hid (BKb8.out.below hb_ (by rw [← hgb22]; exact BKb8.out.lt)); have NBb10_b22 : Hid (gb10 ≠ gb22) := hid (by have := BKb10.out.lt; omega); have NBb22_b10 : Hid (gb22 ≠ gb10) := hid (by have := NBb10_b22.out; omega); replace BKb10 := hid (BKb10.out.below hb_ (by rw [← hgb22]; exact BKb10.out.lt)); have NBb14_b22 : Hid (gb14 ≠ gb22) := hid (by have := BKb14.out.lt; omega); have NBb22_b14 : Hid (gb22 ≠ gb14) := hid (by have := NBb14_b22.out; omega); replace BKb14 := hid (BKb14.out.below hb_ (by rw [← hgb22]; exact BKb14.out.lt)); replace SWt3 := hid (SWt3.out.below (by rw [hgb22]; exact hb_)); replace HL := hid (HL.out.trans (hb_.mono GEb22.out)); have BKb22 := hid hB_; clear hb_ hB_ hs_ hgb22)
         | ((with_reducible refine gate_d (N := 76) rfl ?_); refine ag_fix (.pointer (some ⟨gb22, 2, none⟩)) (ex_field 48 2 (.pointer (some ⟨gb22, 0, none⟩)) (.pointer (some ⟨gb22, 2, none⟩)) (fa48_2_0 gb22) _ rfl rfl) rfl ?_)
         | ((with_reducible refine gate_d (N := 77) rfl ?_); refine ag_fix (.int .i64 t21) (ex_get sT32 gb22 (2) (.int .i64 t21) (#[.int .i64 t19, .int .i64 t20, .int .i64 t21]) BKb22.out rfl _ rfl rfl) rfl ?_)
         | ((with_reducible refine gate_d (N := 85) rfl ?_); refine ag_fix (.pointer (some ⟨gb22, 1, none⟩)) (ex_field 48 1 (.pointer (some ⟨gb22, 0, none⟩)) (.pointer (some ⟨gb22, 1, none⟩)) (fa48_1_0 gb22) _ rfl rfl) rfl ?_)
         | ((with_reducible refine gate_d (N := 86) rfl ?_); refine ag_fix (.int .i64 t20) (ex_get sT3 gb22 (1) (.int .i64 t20) (#[.int .i64 t19, .int .i64 t20, .int .i64 t21]) BKb22.out rfl _ rfl rfl) rfl ?_)
         | ((with_reducible refine gate_d (N := 88) rfl ?_); refine ag_fix (.pointer (some ⟨gb10, 3, none⟩)) (ex_field 29 3 (.pointer (some ⟨gb10, 0, none⟩)) (.pointer (some ⟨gb10, 3, none⟩)) (fa29_3_0 gb10) _ rfl rfl) rfl ?_)
         | ((with_reducible refine gate_s (t := 4) (p := 88) rfl ?_); refine ag_set sT4 gb10 (3) (.bool (t20 == 1)) #[.int .i64 ((nt t4 t6.toNat (0, 0, 0, false)).1), .int .i64 ((nt t4 t6.toNat (0, 0, 0, false)).2.1), .int .i64 t12, .bool ((nt t4 t6.toNat (0, 0, 0, false)).2.2.2)] #[.int .i64 ((nt t4 t6.toNat (0, 0, 0, false)).1), .int .i64 ((nt t4 t6.toNat (0, 0, 0, false)).2.1), .int .i64 t12, .bool (t20 == 1)] BKb10.out (by simp) rfl rfl rfl rfl _ _ rfl rfl rfl ?_; intro w74 ho_ hB_; replace BKb1 := hid (BKb1.out.off ho_ NBb1_b10.out); replace BKb2 := hid (BKb2.out.off ho_ NBb2_b10.out); replace BKb8 := hid (BKb8.out.off ho_ NBb8_b10.out); replace BKb14 := hid (BKb14.out.off ho_ NBb14_b10.out); replace BKb22 := hid (BKb22.out.off ho_ NBb22_b10.out); replace SWt3 := hid (SWt3.out.off ho_ BKb10.out (by decide)); replace HL := hid (ho_.below HL.out GEb10.out); replace BKb10 := hid hB_; clear ho_ hB_))
        (try simp only [Act.put, sI, sZ, sS])
        have WR64 := i64_w
        have WR32 := i32_w
        have WR8 := u8_w
        have WRU := u32_w
        refine sq_region (fun w'_ => Below w.heap.size w w'_ ∧ Blk w'_ gb2 48 #[.int .i64 0, .int .i64 0, .int .i64 0] ∧ Blk w'_ gb8 48 #[.int .i64 t5, .int .i64 t6, .int .i64 t7] ∧ Blk w'_ gb10 29 #[.int .i64 ((nt t4 t6.toNat (0, 0, 0, false)).1), .int .i64 ((nt t4 t6.toNat (0, 0, 0, false)).2.1), .int .i64 t12, .bool (t20 == 1)] ∧ Blk w'_ gb14 48 #[.int .i64 t11, .int .i64 t12, .int .i64 t13] ∧ Blk w'_ gb22 48 #[.int .i64 t19, .int .i64 t20, .int .i64 t21] ∧ Own w'_ w.heap.size 9 (ut3) (t3.map Value.string) ∧ True) [5] [(0, 1), (1, 2), (2, 1), (3, 2), (4, 0), (5, 0)] (by kernel_rfl) (by kernel_rfl) (by kernel_rfl) rfl ?_
        intro w75 hb_
        replace BKb1 := hid (BKb1.out.below hb_ BKb1.out.lt)
        replace BKb2 := hid (BKb2.out.below hb_ BKb2.out.lt)
        replace BKb8 := hid (BKb8.out.below hb_ BKb8.out.lt)
        replace BKb10 := hid (BKb10.out.below hb_ BKb10.out.lt)
        replace BKb14 := hid (BKb14.out.below hb_ BKb14.out.lt)
        replace BKb22 := hid (BKb22.out.below hb_ BKb22.out.lt)
        replace SWt3 := hid (SWt3.out.below hb_)
        replace HL := hid (HL.out.trans (hb_.mono HL.out.size))
        clear hb_
        refine sq_take (.agg #[.int .i64 ((nt t4 t6.toNat (0, 0, 0, false)).1), .int .i64 ((nt t4 t6.toNat (0, 0, 0, false)).2.1), .int .i64 t12, .bool (t20 == 1)]) ⟨HL.out, BKb2.out, BKb8.out, BKb10.out, BKb14.out, BKb22.out, SWt3.out, trivial⟩ rfl (fun w'_ hS_ => ex_load aT29 gb10 0 #[.int .i64 ((nt t4 t6.toNat (0, 0, 0, false)).1), .int .i64 ((nt t4 t6.toNat (0, 0, 0, false)).2.1), .int .i64 t12, .bool (t20 == 1)] #[.int .i64 ((nt t4 t6.toNat (0, 0, 0, false)).1), .int .i64 ((nt t4 t6.toNat (0, 0, 0, false)).2.1), .int .i64 t12, .bool (t20 == 1)] hS_.2.2.2.1 (by simp) rfl _ rfl rfl) rfl rfl ?_
        intro ts_ ht_; simp only [sI, sZ, sS] at ht_; subst ht_
        refine sq_pure (.pointer (some ⟨gb22, 0, none⟩)) rfl (fun w'_ => ex_field 48 0 (.pointer (some ⟨gb22, 0, none⟩)) (.pointer (some ⟨gb22, 0, none⟩)) (fa48_0_0 gb22) _ rfl rfl) rfl rfl ?_
        intro ts_ ht_; simp only [sI, sZ, sS] at ht_; subst ht_
        refine sq_take (.int .i64 t19) ⟨HL.out, BKb2.out, BKb8.out, BKb10.out, BKb14.out, BKb22.out, SWt3.out, trivial⟩ rfl (fun w'_ hS_ => ex_get sT3 gb22 (0) (.int .i64 t19) (#[.int .i64 t19, .int .i64 t20, .int .i64 t21]) hS_.2.2.2.2.2.1 rfl _ rfl rfl) rfl rfl ?_
        intro ts_ ht_; simp only [sI, sZ, sS] at ht_; subst ht_
        refine sq_pure (.agg #[.int .i64 t19, .int .i64 0, .int .i64 0]) rfl (fun w'_ => ex_build (.agg #[.int .i64 t19, .int .i64 0, .int .i64 0]) _ rfl (by intro ww_; simp only [List.map_toArray, List.map_cons, List.map_nil]; kernel_rfl)) rfl rfl ?_
        intro ts_ ht_; simp only [sI, sZ, sS] at ht_; subst ht_
        refine sq_act rfl (fun Q'_ hQ_ => ?_)
        (with_reducible refine gate_s (t := 29) (p := 4) rfl ?_)
        refine ag_store aT29 gb1 0 #[.int .i64 0, .int .i64 0, .int .i64 0, .bool false] #[.int .i64 ((nt t4 t6.toNat (0, 0, 0, false)).1), .int .i64 ((nt t4 t6.toNat (0, 0, 0, false)).2.1), .int .i64 t12, .bool (t20 == 1)] #[.int .i64 ((nt t4 t6.toNat (0, 0, 0, false)).1), .int .i64 ((nt t4 t6.toNat (0, 0, 0, false)).2.1), .int .i64 t12, .bool (t20 == 1)] BKb1.out rfl (by simp) (by intro v_ hv_; simp at hv_; rcases hv_ with rfl | rfl | rfl | rfl <;> first | rfl) rfl rfl _ _ rfl rfl rfl ?_
        intro w76 ho_ hB_
        replace BKb2 := hid (BKb2.out.off ho_ NBb2_b1.out)
        replace BKb8 := hid (BKb8.out.off ho_ NBb8_b1.out)
        replace BKb10 := hid (BKb10.out.off ho_ NBb10_b1.out)
        replace BKb14 := hid (BKb14.out.off ho_ NBb14_b1.out)
        replace BKb22 := hid (BKb22.out.off ho_ NBb22_b1.out)
        replace SWt3 := hid (SWt3.out.off ho_ BKb1.out (by decide))
        replace HL := hid (ho_.below HL.out GEb1.out)
        replace BKb1 := hid hB_
        clear ho_ hB_
        refine act_end ?_
        refine hQ_ _ _ (fun _ => ⟨HL.out, BKb2.out, BKb8.out, BKb10.out, BKb14.out, BKb22.out, SWt3.out, trivial⟩) ?_
        clear hQ_ Q'_
        simp only [Act.put]
        refine sq_act rfl (fun Q'_ hQ_ => ?_)
        (with_reducible refine gate_s (t := 48) (p := 5) rfl ?_)
        refine ag_store aT48 gb2 0 #[.int .i64 0, .int .i64 0, .int .i64 0] #[.int .i64 t19, .int .i64 0, .int .i64 0] #[.int .i64 t19, .int .i64 0, .int .i64 0] BKb2.out rfl (by simp) (by intro v_ hv_; simp at hv_; rcases hv_ with rfl | rfl | rfl <;> first | rfl) rfl rfl _ _ rfl rfl rfl ?_
        intro w77 ho_ hB_
        replace BKb1 := hid (BKb1.out.off ho_ NBb1_b2.out)
        replace BKb8 := hid (BKb8.out.off ho_ NBb8_b2.out)
        replace BKb10 := hid (BKb10.out.off ho_ NBb10_b2.out)
        replace BKb14 := hid (BKb14.out.off ho_ NBb14_b2.out)
        replace BKb22 := hid (BKb22.out.off ho_ NBb22_b2.out)
        replace SWt3 := hid (SWt3.out.off ho_ BKb2.out (by decide))
        replace HL := hid (ho_.below HL.out GEb2.out)
        replace BKb2 := hid hB_
        clear ho_ hB_
        refine act_end ?_
        refine hQ_ _ _ (fun h_ => absurd h_ (by decide)) ?_
        clear hQ_ Q'_
        simp only [Act.put]
        refine sq_end ?_
        clear WR64 WR32 WR8 WRU
        go_wp2_with fail
        (try simp only [Act.put, sI, sZ, sS])
        refine bodyPost_ret (v := .tuple #[.agg #[.int .i64 ((nt t4 t6.toNat (0, 0, 0, false)).1), .int .i64 ((nt t4 t6.toNat (0, 0, 0, false)).2.1), .int .i64 t12, .bool (t20 == 1)], .agg #[.int .i64 t19, .int .i64 0, .int .i64 0]]) (res_cc aT29 aT48 rfl _ gb1 gb2 #[.int .i64 ((nt t4 t6.toNat (0, 0, 0, false)).1), .int .i64 ((nt t4 t6.toNat (0, 0, 0, false)).2.1), .int .i64 t12, .bool (t20 == 1)] #[.int .i64 t19, .int .i64 0, .int .i64 0] BKb1.out rfl rfl BKb2.out rfl rfl) rfl ?_
        exact ⟨by first | rfl | (simp; done) | (simp [*]; done), HL.out⟩
       ·
        rw [if_neg c70] at H
        have c70b0 : (t21 == 0) = false := beq_eq_false_iff_ne.mpr c70
        have c70b1 : (t21 != 0) = true := bne_iff_ne.mpr c70
        have hc70 := hid c70
        clear c70
        simp only [Option.some.injEq, Prod.mk.injEq] at H
        obtain ⟨rfl, rfl, rfl, rfl, rfl, rfl, rfl⟩ := H
        have k78 := True.intro
        go_wp2_with (first
         | (go_at_call 42; clear k78; refine (i_stip_halved.calls k a0 t11 t19 t20 t21 _ A65.out).mono ?_; rintro e_ w79 ⟨rfl, hb_⟩; replace BKb1 := hid (BKb1.out.below hb_ BKb1.out.lt); replace BKb2 := hid (BKb2.out.below hb_ BKb2.out.lt); replace BKb8 := hid (BKb8.out.below hb_ BKb8.out.lt); replace BKb10 := hid (BKb10.out.below hb_ BKb10.out.lt); replace BKb14 := hid (BKb14.out.below hb_ BKb14.out.lt); replace SWt3 := hid (SWt3.out.below hb_); replace HL := hid (HL.out.trans (hb_.mono HL.out.size)); clear hb_)
         | ((with_reducible refine gate_d (N := 13) rfl ?_); obtain ⟨gb22, hgb22⟩ : ∃ g_, w79.heap.size = g_ := ⟨_, rfl⟩; refine ag_alst aT48 #[.int .i64 t19, .int .i64 t20, .int .i64 t21] gb22 hgb22 rfl (by intro v_ hv_; simp at hv_; rcases hv_ with rfl | rfl | rfl <;> first | rfl) rfl rfl 13 rfl _ _ rfl (fun _ => rfl) (fun _ => rfl) rfl ?_; intro w80 hb_ hB_ hs_; have GEb22 : Hid (w.heap.size ≤ gb22) := hid (by have := HL.out.size; omega); have NBb1_b22 : Hid (gb1 ≠ gb22) := hid (by have := BKb1.out.lt; omega); have NBb22_b1 : Hid (gb22 ≠ gb1) := hid (by have := NBb1_b22.out; omega); replace BKb1 := hid (BKb1.out.below hb_ (by rw [← hgb22]; exact BKb1.out.lt)); have NBb2_b22 : Hid (gb2 ≠ gb22) := hid (by have := BKb2.out.lt; omega); have NBb22_b2 : Hid (gb22 ≠ gb2) := hid (by have := NBb2_b22.out; omega); replace BKb2 := hid (BKb2.out.below hb_ (by rw [← hgb22]; exact BKb2.out.lt)); have NBb8_b22 : Hid (gb8 ≠ gb22) := hid (by have := BKb8.out.lt; omega); have NBb22_b8 : Hid (gb22 ≠ gb8) := hid (by have := NBb8_b22.out; omega); replace BKb8 := hid (BKb8.out.below hb_ (by rw [← hgb22]; exact BKb8.out.lt)); have NBb10_b22 : Hid (gb10 ≠ gb22) := hid (by have := BKb10.out.lt; omega); have NBb22_b10 : Hid (gb22 ≠ gb10) := hid (by have := NBb10_b22.out; omega); replace BKb10 := hid (BKb10.out.below hb_ (by rw [← hgb22]; exact BKb10.out.lt)); have NBb14_b22 : Hid (gb14 ≠ gb22) := hid (by have := BKb14.out.lt; omega); have NBb22_b14 : Hid (gb22 ≠ gb14) := hid (by have := NBb14_b22.out; omega); replace BKb14 := hid (BKb14.out.below hb_ (by rw [← hgb22]; exact BKb14.out.lt)); replace SWt3 := hid (SWt3.out.below (by rw [hgb22]; exact hb_)); replace HL := hid (HL.out.trans (hb_.mono GEb22.out)); have BKb22 := hid hB_; clear hb_ hB_ hs_ hgb22)
         | ((with_reducible refine gate_d (N := 76) rfl ?_); refine ag_fix (.pointer (some ⟨gb22, 2, none⟩)) (ex_field 48 2 (.pointer (some ⟨gb22, 0, none⟩)) (.pointer (some ⟨gb22, 2, none⟩)) (fa48_2_0 gb22) _ rfl rfl) rfl ?_)
         | ((with_reducible refine gate_d (N := 77) rfl ?_); refine ag_fix (.int .i64 t21) (ex_get sT32 gb22 (2) (.int .i64 t21) (#[.int .i64 t19, .int .i64 t20, .int .i64 t21]) BKb22.out rfl _ rfl rfl) rfl ?_))
        (try simp only [Act.put, sI, sZ, sS])
        have WR64 := i64_w
        have WR32 := i32_w
        have WR8 := u8_w
        have WRU := u32_w
        refine sq_region (fun w'_ => Below w.heap.size w w'_ ∧ Blk w'_ gb2 48 #[.int .i64 0, .int .i64 0, .int .i64 0] ∧ Blk w'_ gb8 48 #[.int .i64 t5, .int .i64 t6, .int .i64 t7] ∧ Blk w'_ gb10 29 #[.int .i64 ((nt t4 t6.toNat (0, 0, 0, false)).1), .int .i64 ((nt t4 t6.toNat (0, 0, 0, false)).2.1), .int .i64 t12, .bool ((nt t4 t6.toNat (0, 0, 0, false)).2.2.2)] ∧ Blk w'_ gb14 48 #[.int .i64 t11, .int .i64 t12, .int .i64 t13] ∧ Blk w'_ gb22 48 #[.int .i64 t19, .int .i64 t20, .int .i64 t21] ∧ Own w'_ w.heap.size 9 (ut3) (t3.map Value.string) ∧ True) [7] [(0, 2), (1, 2), (2, 1), (3, 2), (4, 1), (5, 2), (6, 0), (7, 0)] (by kernel_rfl) (by kernel_rfl) (by kernel_rfl) rfl ?_
        intro w81 hb_
        replace BKb1 := hid (BKb1.out.below hb_ BKb1.out.lt)
        replace BKb2 := hid (BKb2.out.below hb_ BKb2.out.lt)
        replace BKb8 := hid (BKb8.out.below hb_ BKb8.out.lt)
        replace BKb10 := hid (BKb10.out.below hb_ BKb10.out.lt)
        replace BKb14 := hid (BKb14.out.below hb_ BKb14.out.lt)
        replace BKb22 := hid (BKb22.out.below hb_ BKb22.out.lt)
        replace SWt3 := hid (SWt3.out.below hb_)
        replace HL := hid (HL.out.trans (hb_.mono HL.out.size))
        clear hb_
        refine sq_pure (.agg #[.int .i64 0, .int .i64 0, .int .i64 0, .bool false]) rfl (fun w'_ => ex_build (.agg #[.int .i64 0, .int .i64 0, .int .i64 0, .bool false]) _ rfl (by intro ww_; kernel_rfl)) rfl rfl ?_
        intro ts_ ht_; simp only [sI, sZ, sS] at ht_; subst ht_
        refine sq_pure (.pointer (some ⟨gb22, 0, none⟩)) rfl (fun w'_ => ex_field 48 0 (.pointer (some ⟨gb22, 0, none⟩)) (.pointer (some ⟨gb22, 0, none⟩)) (fa48_0_0 gb22) _ rfl rfl) rfl rfl ?_
        intro ts_ ht_; simp only [sI, sZ, sS] at ht_; subst ht_
        refine sq_take (.int .i64 t19) ⟨HL.out, BKb2.out, BKb8.out, BKb10.out, BKb14.out, BKb22.out, SWt3.out, trivial⟩ rfl (fun w'_ hS_ => ex_get sT3 gb22 (0) (.int .i64 t19) (#[.int .i64 t19, .int .i64 t20, .int .i64 t21]) hS_.2.2.2.2.2.1 rfl _ rfl rfl) rfl rfl ?_
        intro ts_ ht_; simp only [sI, sZ, sS] at ht_; subst ht_
        refine sq_pure (.pointer (some ⟨gb22, 2, none⟩)) rfl (fun w'_ => ex_field 48 2 (.pointer (some ⟨gb22, 0, none⟩)) (.pointer (some ⟨gb22, 2, none⟩)) (fa48_2_0 gb22) _ rfl rfl) rfl rfl ?_
        intro ts_ ht_; simp only [sI, sZ, sS] at ht_; subst ht_
        refine sq_take (.int .i64 t21) ⟨HL.out, BKb2.out, BKb8.out, BKb10.out, BKb14.out, BKb22.out, SWt3.out, trivial⟩ rfl (fun w'_ hS_ => ex_get sT32 gb22 (2) (.int .i64 t21) (#[.int .i64 t19, .int .i64 t20, .int .i64 t21]) hS_.2.2.2.2.2.1 rfl _ rfl rfl) rfl rfl ?_
        intro ts_ ht_; simp only [sI, sZ, sS] at ht_; subst ht_
        refine sq_pure (.agg #[.int .i64 t19, .int .i64 0, .int .i64 t21]) rfl (fun w'_ => ex_build (.agg #[.int .i64 t19, .int .i64 0, .int .i64 t21]) _ rfl (by intro ww_; simp only [List.map_toArray, List.map_cons, List.map_nil]; kernel_rfl)) rfl rfl ?_
        intro ts_ ht_; simp only [sI, sZ, sS] at ht_; subst ht_
        refine sq_act rfl (fun Q'_ hQ_ => ?_)
        (with_reducible refine gate_s (t := 29) (p := 4) rfl ?_)
        refine ag_store aT29 gb1 0 #[.int .i64 0, .int .i64 0, .int .i64 0, .bool false] #[.int .i64 0, .int .i64 0, .int .i64 0, .bool false] #[.int .i64 0, .int .i64 0, .int .i64 0, .bool false] BKb1.out rfl (by simp) (by intro v_ hv_; simp at hv_; rcases hv_ with rfl | rfl | rfl | rfl <;> first | rfl) rfl rfl _ _ rfl rfl rfl ?_
        intro w82 ho_ hB_
        replace BKb2 := hid (BKb2.out.off ho_ NBb2_b1.out)
        replace BKb8 := hid (BKb8.out.off ho_ NBb8_b1.out)
        replace BKb10 := hid (BKb10.out.off ho_ NBb10_b1.out)
        replace BKb14 := hid (BKb14.out.off ho_ NBb14_b1.out)
        replace BKb22 := hid (BKb22.out.off ho_ NBb22_b1.out)
        replace SWt3 := hid (SWt3.out.off ho_ BKb1.out (by decide))
        replace HL := hid (ho_.below HL.out GEb1.out)
        replace BKb1 := hid hB_
        clear ho_ hB_
        refine act_end ?_
        refine hQ_ _ _ (fun _ => ⟨HL.out, BKb2.out, BKb8.out, BKb10.out, BKb14.out, BKb22.out, SWt3.out, trivial⟩) ?_
        clear hQ_ Q'_
        simp only [Act.put]
        refine sq_act rfl (fun Q'_ hQ_ => ?_)
        (with_reducible refine gate_s (t := 48) (p := 5) rfl ?_)
        refine ag_store aT48 gb2 0 #[.int .i64 0, .int .i64 0, .int .i64 0] #[.int .i64 t19, .int .i64 0, .int .i64 t21] #[.int .i64 t19, .int .i64 0, .int .i64 t21] BKb2.out rfl (by simp) (by intro v_ hv_; simp at hv_; rcases hv_ with rfl | rfl | rfl <;> first | rfl) rfl rfl _ _ rfl rfl rfl ?_
        intro w83 ho_ hB_
        replace BKb1 := hid (BKb1.out.off ho_ NBb1_b2.out)
        replace BKb8 := hid (BKb8.out.off ho_ NBb8_b2.out)
        replace BKb10 := hid (BKb10.out.off ho_ NBb10_b2.out)
        replace BKb14 := hid (BKb14.out.off ho_ NBb14_b2.out)
        replace BKb22 := hid (BKb22.out.off ho_ NBb22_b2.out)
        replace SWt3 := hid (SWt3.out.off ho_ BKb2.out (by decide))
        replace HL := hid (ho_.below HL.out GEb2.out)
        replace BKb2 := hid hB_
        clear ho_ hB_
        refine act_end ?_
        refine hQ_ _ _ (fun h_ => absurd h_ (by decide)) ?_
        clear hQ_ Q'_
        simp only [Act.put]
        refine sq_end ?_
        clear WR64 WR32 WR8 WRU
        go_wp2_with fail
        (try simp only [Act.put, sI, sZ, sS])
        refine bodyPost_ret (v := .tuple #[.agg #[.int .i64 0, .int .i64 0, .int .i64 0, .bool false], .agg #[.int .i64 t19, .int .i64 0, .int .i64 t21]]) (res_cc aT29 aT48 rfl _ gb1 gb2 #[.int .i64 0, .int .i64 0, .int .i64 0, .bool false] #[.int .i64 t19, .int .i64 0, .int .i64 t21] BKb1.out rfl rfl BKb2.out rfl rfl) rfl ?_
        exact ⟨by first | rfl | (simp; done) | (simp [*]; done), HL.out⟩
     ·
      rw [if_neg c44] at H
      have c44b0 : (t13 == 0) = false := beq_eq_false_iff_ne.mpr c44
      have c44b1 : (t13 != 0) = true := bne_iff_ne.mpr c44
      have hc44 := hid c44
      clear c44
      simp only [Option.some.injEq, Prod.mk.injEq] at H
      obtain ⟨rfl, rfl, rfl, rfl, rfl, rfl, rfl⟩ := H
      have k84 := True.intro
      go_wp2_with (first
       | (go_at_call 32; clear k84; refine (i_lex_Number.calls k a0 t5 0 64 t11 t12 t13 _ A37.out).mono ?_; rintro e_ w85 ⟨rfl, hb_⟩; replace BKb1 := hid (BKb1.out.below hb_ BKb1.out.lt); replace BKb2 := hid (BKb2.out.below hb_ BKb2.out.lt); replace BKb8 := hid (BKb8.out.below hb_ BKb8.out.lt); replace BKb10 := hid (BKb10.out.below hb_ BKb10.out.lt); replace SWt3 := hid (SWt3.out.below hb_); replace SWt4 := hid (SWt4.out.below hb_); replace HL := hid (HL.out.trans (hb_.mono HL.out.size)); clear hb_)
       | ((with_reducible refine gate_d (N := 11) rfl ?_); obtain ⟨gb14, hgb14⟩ : ∃ g_, w85.heap.size = g_ := ⟨_, rfl⟩; refine ag_alst aT48 #[.int .i64 t11, .int .i64 t12, .int .i64 t13] gb14 hgb14 rfl (by intro v_ hv_; simp at hv_; rcases hv_ with rfl | rfl | rfl <;> first | rfl) rfl rfl 11 rfl _ _ rfl (fun _ => rfl) (fun _ => rfl) rfl ?_; intro w86 hb_ hB_ hs_; have GEb14 : Hid (w.heap.size ≤ gb14) := hid (by have := HL.out.size; omega); have NBb1_b14 : Hid (gb1 ≠ gb14) := hid (by have := BKb1.out.lt; omega); have NBb14_b1 : Hid (gb14 ≠ gb1) := hid (by have := NBb1_b14.out; omega); replace BKb1 := hid (BKb1.out.below hb_ (by rw [← hgb14]; exact BKb1.out.lt)); have NBb2_b14 : Hid (gb2 ≠ gb14) := hid (by have := BKb2.out.lt; omega); have NBb14_b2 : Hid (gb14 ≠ gb2) := hid (by have := NBb2_b14.out; omega); replace BKb2 := hid (BKb2.out.below hb_ (by rw [← hgb14]; exact BKb2.out.lt)); have NBb8_b14 : Hid (gb8 ≠ gb14) := hid (by have := BKb8.out.lt; omega); have NBb14_b8 : Hid (gb14 ≠ gb8) := hid (by have := NBb8_b14.out; omega); replace BKb8 := hid (BKb8.out.below hb_ (by rw [← hgb14]; exact BKb8.out.lt)); have NBb10_b14 : Hid (gb10 ≠ gb14) := hid (by have := BKb10.out.lt; omega); have NBb14_b10 : Hid (gb14 ≠ gb10) := hid (by have := NBb10_b14.out; omega); replace BKb10 := hid (BKb10.out.below hb_ (by rw [← hgb14]; exact BKb10.out.lt)); replace SWt3 := hid (SWt3.out.below (by rw [hgb14]; exact hb_)); replace SWt4 := hid (SWt4.out.below (by rw [hgb14]; exact hb_)); replace HL := hid (HL.out.trans (hb_.mono GEb14.out)); have BKb14 := hid hB_; clear hb_ hB_ hs_ hgb14)
       | ((with_reducible refine gate_d (N := 40) rfl ?_); refine ag_fix (.pointer (some ⟨gb14, 2, none⟩)) (ex_field 48 2 (.pointer (some ⟨gb14, 0, none⟩)) (.pointer (some ⟨gb14, 2, none⟩)) (fa48_2_0 gb14) _ rfl rfl) rfl ?_)
       | ((with_reducible refine gate_d (N := 41) rfl ?_); refine ag_fix (.int .i64 t13) (ex_get sT32 gb14 (2) (.int .i64 t13) (#[.int .i64 t11, .int .i64 t12, .int .i64 t13]) BKb14.out rfl _ rfl rfl) rfl ?_))
      (try simp only [Act.put, sI, sZ, sS])
      have WR64 := i64_w
      have WR32 := i32_w
      have WR8 := u8_w
      have WRU := u32_w
      refine sq_region (fun w'_ => Below w.heap.size w w'_ ∧ Blk w'_ gb2 48 #[.int .i64 0, .int .i64 0, .int .i64 0] ∧ Blk w'_ gb8 48 #[.int .i64 t5, .int .i64 t6, .int .i64 t7] ∧ Blk w'_ gb10 29 #[.int .i64 ((nt t4 t6.toNat (0, 0, 0, false)).1), .int .i64 ((nt t4 t6.toNat (0, 0, 0, false)).2.1), .int .i64 ((nt t4 t6.toNat (0, 0, 0, false)).2.2.1), .bool ((nt t4 t6.toNat (0, 0, 0, false)).2.2.2)] ∧ Blk w'_ gb14 48 #[.int .i64 t11, .int .i64 t12, .int .i64 t13] ∧ Own w'_ w.heap.size 9 (ut3) (t3.map Value.string) ∧ True) [3] [(0, 2), (1, 1), (2, 0), (3, 0)] (by kernel_rfl) (by kernel_rfl) (by kernel_rfl) rfl ?_
      intro w87 hb_
      replace BKb1 := hid (BKb1.out.below hb_ BKb1.out.lt)
      replace BKb2 := hid (BKb2.out.below hb_ BKb2.out.lt)
      replace BKb8 := hid (BKb8.out.below hb_ BKb8.out.lt)
      replace BKb10 := hid (BKb10.out.below hb_ BKb10.out.lt)
      replace BKb14 := hid (BKb14.out.below hb_ BKb14.out.lt)
      replace SWt3 := hid (SWt3.out.below hb_)
      replace SWt4 := hid (SWt4.out.below hb_)
      replace HL := hid (HL.out.trans (hb_.mono HL.out.size))
      clear hb_
      refine sq_pure (.agg #[.int .i64 0, .int .i64 0, .int .i64 0, .bool false]) rfl (fun w'_ => ex_build (.agg #[.int .i64 0, .int .i64 0, .int .i64 0, .bool false]) _ rfl (by intro ww_; kernel_rfl)) rfl rfl ?_
      intro ts_ ht_; simp only [sI, sZ, sS] at ht_; subst ht_
      refine sq_take (.agg #[.int .i64 t11, .int .i64 t12, .int .i64 t13]) ⟨HL.out, BKb2.out, BKb8.out, BKb10.out, BKb14.out, SWt3.out, trivial⟩ rfl (fun w'_ hS_ => ex_load aT48 gb14 0 #[.int .i64 t11, .int .i64 t12, .int .i64 t13] #[.int .i64 t11, .int .i64 t12, .int .i64 t13] hS_.2.2.2.2.1 (by simp) rfl _ rfl rfl) rfl rfl ?_
      intro ts_ ht_; simp only [sI, sZ, sS] at ht_; subst ht_
      refine sq_act rfl (fun Q'_ hQ_ => ?_)
      (with_reducible refine gate_s (t := 29) (p := 4) rfl ?_)
      refine ag_store aT29 gb1 0 #[.int .i64 0, .int .i64 0, .int .i64 0, .bool false] #[.int .i64 0, .int .i64 0, .int .i64 0, .bool false] #[.int .i64 0, .int .i64 0, .int .i64 0, .bool false] BKb1.out rfl (by simp) (by intro v_ hv_; simp at hv_; rcases hv_ with rfl | rfl | rfl | rfl <;> first | rfl) rfl rfl _ _ rfl rfl rfl ?_
      intro w88 ho_ hB_
      replace BKb2 := hid (BKb2.out.off ho_ NBb2_b1.out)
      replace BKb8 := hid (BKb8.out.off ho_ NBb8_b1.out)
      replace BKb10 := hid (BKb10.out.off ho_ NBb10_b1.out)
      replace BKb14 := hid (BKb14.out.off ho_ NBb14_b1.out)
      clear SWt4
      replace SWt3 := hid (SWt3.out.off ho_ BKb1.out (by decide))
      replace HL := hid (ho_.below HL.out GEb1.out)
      replace BKb1 := hid hB_
      clear ho_ hB_
      refine act_end ?_
      refine hQ_ _ _ (fun _ => ⟨HL.out, BKb2.out, BKb8.out, BKb10.out, BKb14.out, SWt3.out, trivial⟩) ?_
      clear hQ_ Q'_
      simp only [Act.put]
      refine sq_act rfl (fun Q'_ hQ_ => ?_)
      (with_reducible refine gate_s (t := 48) (p := 5) rfl ?_)
      refine ag_store aT48 gb2 0 #[.int .i64 0, .int .i64 0, .int .i64 0] #[.int .i64 t11, .int .i64 t12, .int .i64 t13] #[.int .i64 t11, .int .i64 t12, .int .i64 t13] BKb2.out rfl (by simp) (by intro v_ hv_; simp at hv_; rcases hv_ with rfl | rfl | rfl <;> first | rfl) rfl rfl _ _ rfl rfl rfl ?_
      intro w89 ho_ hB_
      replace BKb1 := hid (BKb1.out.off ho_ NBb1_b2.out)
      replace BKb8 := hid (BKb8.out.off ho_ NBb8_b2.out)
      replace BKb10 := hid (BKb10.out.off ho_ NBb10_b2.out)
      replace BKb14 := hid (BKb14.out.off ho_ NBb14_b2.out)
      replace SWt3 := hid (SWt3.out.off ho_ BKb2.out (by decide))
      replace HL := hid (ho_.below HL.out GEb2.out)
      replace BKb2 := hid hB_
      clear ho_ hB_
      refine act_end ?_
      refine hQ_ _ _ (fun h_ => absurd h_ (by decide)) ?_
      clear hQ_ Q'_
      simp only [Act.put]
      refine sq_end ?_
      clear WR64 WR32 WR8 WRU
      go_wp2_with fail
      (try simp only [Act.put, sI, sZ, sS])
      refine bodyPost_ret (v := .tuple #[.agg #[.int .i64 0, .int .i64 0, .int .i64 0, .bool false], .agg #[.int .i64 t11, .int .i64 t12, .int .i64 t13]]) (res_cc aT29 aT48 rfl _ gb1 gb2 #[.int .i64 0, .int .i64 0, .int .i64 0, .bool false] #[.int .i64 t11, .int .i64 t12, .int .i64 t13] BKb1.out rfl rfl BKb2.out rfl rfl) rfl ?_
      exact ⟨by first | rfl | (simp; done) | (simp [*]; done), HL.out⟩
    ·
     rw [if_neg c36] at H
     have c36b0 : (((nt t4 t6.toNat (0, 0, 0, false)).1) == 5) = false := beq_eq_false_iff_ne.mpr c36
     have c36b1 : (((nt t4 t6.toNat (0, 0, 0, false)).1) != 5) = true := bne_iff_ne.mpr c36
     have hc36 := hid c36
     clear c36
     have H' := hid H
     clear H
     have k91 := True.intro
     go_wp2_with (first
      | (go_at_call 30; clear k91; refine (i_lex_OneOf.calls k a0 a1 (ut3) t3 t5 t6 t7 _ SWt3.out.sl A28.out).mono ?_; rintro e_ w92 ⟨rfl, hb_⟩; replace BKb1 := hid (BKb1.out.below hb_ BKb1.out.lt); replace BKb2 := hid (BKb2.out.below hb_ BKb2.out.lt); replace SWt3 := hid (SWt3.out.below hb_); replace SWt4 := hid (SWt4.out.below hb_); replace HL := hid (HL.out.trans (hb_.mono HL.out.size)); clear hb_)
      | ((with_reducible refine gate_d (N := 8) rfl ?_); obtain ⟨gb8, hgb8⟩ : ∃ g_, w92.heap.size = g_ := ⟨_, rfl⟩; refine ag_alst aT48 #[.int .i64 t5, .int .i64 t6, .int .i64 t7] gb8 hgb8 rfl (by intro v_ hv_; simp at hv_; rcases hv_ with rfl | rfl | rfl <;> first | rfl) rfl rfl 8 rfl _ _ rfl (fun _ => rfl) (fun _ => rfl) rfl ?_; intro w93 hb_ hB_ hs_; have GEb8 : Hid (w.heap.size ≤ gb8) := hid (by have := HL.out.size; omega); have NBb1_b8 : Hid (gb1 ≠ gb8) := hid (by have := BKb1.out.lt; omega); have NBb8_b1 : Hid (gb8 ≠ gb1) := hid (by have := NBb1_b8.out; omega); replace BKb1 := hid (BKb1.out.below hb_ (by rw [← hgb8]; exact BKb1.out.lt)); have NBb2_b8 : Hid (gb2 ≠ gb8) := hid (by have := BKb2.out.lt; omega); have NBb8_b2 : Hid (gb8 ≠ gb2) := hid (by have := NBb2_b8.out; omega); replace BKb2 := hid (BKb2.out.below hb_ (by rw [← hgb8]; exact BKb2.out.lt)); replace SWt3 := hid (SWt3.out.below (by rw [hgb8]; exact hb_)); replace SWt4 := hid (SWt4.out.below (by rw [hgb8]; exact hb_)); replace HL := hid (HL.out.trans (hb_.mono GEb8.out)); have BKb8 := hid hB_; clear hb_ hB_ hs_ hgb8)
      | ((with_reducible refine gate_d (N := 22) rfl ?_); refine ag_fix (.pointer (some ⟨gb8, 2, none⟩)) (ex_field 48 2 (.pointer (some ⟨gb8, 0, none⟩)) (.pointer (some ⟨gb8, 2, none⟩)) (fa48_2_0 gb8) _ rfl rfl) rfl ?_)
      | ((with_reducible refine gate_d (N := 23) rfl ?_); refine ag_fix (.int .i64 t7) (ex_get sT32 gb8 (2) (.int .i64 t7) (#[.int .i64 t5, .int .i64 t6, .int .i64 t7]) BKb8.out rfl _ rfl rfl) rfl ?_)
      | ((with_reducible refine gate_d (N := 28) rfl ?_); refine ag_fix (.pointer (some ⟨gb8, 1, none⟩)) (ex_field 48 1 (.pointer (some ⟨gb8, 0, none⟩)) (.pointer (some ⟨gb8, 1, none⟩)) (fa48_1_0 gb8) _ rfl rfl) rfl ?_)
      | ((with_reducible refine gate_d (N := 29) rfl ?_); refine ag_fix (.int .i64 t6) (ex_get sT3 gb8 (1) (.int .i64 t6) (#[.int .i64 t5, .int .i64 t6, .int .i64 t7]) BKb8.out rfl _ rfl rfl) rfl ?_)
      | ((with_reducible refine gate_d (N := 30) rfl ?_); obtain ⟨ad9, c94, hv95, HCad9_⟩ := SlN.get (l := t4) (f := en29) en29_len SWt4.out.sl (0, 0, 0, false) (i := t6) hc34.out hc35.out; have HCad9 := hid HCad9_; clear HCad9_; refine ag_fix (.pointer (some (ad9.add (t6.toNat * 4)))) (ex_satN _ _ t6 _ _ hv95 hc34.out hc35.out us74 aT29.size _ _ rfl rfl rfl) rfl ?_; clear hv95)
      | ((with_reducible refine gate_d (N := 31) rfl ?_); refine ag_fix (.agg #[.int .i64 ((nt t4 t6.toNat (0, 0, 0, false)).1), .int .i64 ((nt t4 t6.toNat (0, 0, 0, false)).2.1), .int .i64 ((nt t4 t6.toNat (0, 0, 0, false)).2.2.1), .bool ((nt t4 t6.toNat (0, 0, 0, false)).2.2.2)]) (ex_ldN aT29 _ (en29 (nt t4 t6.toNat (0, 0, 0, false))) rfl HCad9.out _ rfl rfl) rfl ?_)
      | ((with_reducible refine gate_d (N := 9) rfl ?_); obtain ⟨gb10, hgb10⟩ : ∃ g_, w93.heap.size = g_ := ⟨_, rfl⟩; refine ag_alst aT29 #[.int .i64 ((nt t4 t6.toNat (0, 0, 0, false)).1), .int .i64 ((nt t4 t6.toNat (0, 0, 0, false)).2.1), .int .i64 ((nt t4 t6.toNat (0, 0, 0, false)).2.2.1), .bool ((nt t4 t6.toNat (0, 0, 0, false)).2.2.2)] gb10 hgb10 rfl (by intro v_ hv_; simp at hv_; rcases hv_ with rfl | rfl | rfl | rfl <;> first | rfl) rfl rfl 9 rfl _ _ rfl (fun _ => rfl) (fun _ => rfl) rfl ?_; intro w96 hb_ hB_ hs_; have GEb10 : Hid (w.heap.size ≤ gb10) := hid (by have := HL.out.size; omega); have NBb1_b10 : Hid (gb1 ≠ gb10) := hid (by have := BKb1.out.lt; omega); have NBb10_b1 : Hid (gb10 ≠ gb1) := hid (by have := NBb1_b10.out; omega); replace BKb1 := hid (BKb1.out.below hb_ (by rw [← hgb10]; exact BKb1.out.lt)); have NBb2_b10 : Hid (gb2 ≠ gb10) := hid (by have := BKb2.out.lt; omega); have NBb10_b2 : Hid (gb10 ≠ gb2) := hid (by have := NBb2_b10.out; omega); replace BKb2 := hid (BKb2.out.below hb_ (by rw [← hgb10]; exact BKb2.out.lt)); have NBb8_b10 : Hid (gb8 ≠ gb10) := hid (by have := BKb8.out.lt; omega); have NBb10_b8 : Hid (gb10 ≠ gb8) := hid (by have := NBb8_b10.out; omega); replace BKb8 := hid (BKb8.out.below hb_ (by rw [← hgb10]; exact BKb8.out.lt)); replace SWt3 := hid (SWt3.out.below (by rw [hgb10]; exact hb_)); replace SWt4 := hid (SWt4.out.below (by rw [hgb10]; exact hb_)); replace HL := hid (HL.out.trans (hb_.mono GEb10.out)); have BKb10 := hid hB_; clear hb_ hB_ hs_ hgb10)
      | ((with_reducible refine gate_d (N := 32) rfl ?_); refine ag_fix (.pointer (some ⟨gb10, 0, none⟩)) (ex_field 29 0 (.pointer (some ⟨gb10, 0, none⟩)) (.pointer (some ⟨gb10, 0, none⟩)) (fa29_0_0 gb10) _ rfl rfl) rfl ?_)
      | ((with_reducible refine gate_d (N := 33) rfl ?_); refine ag_fix (.int .i64 ((nt t4 t6.toNat (0, 0, 0, false)).1)) (ex_get sT3 gb10 (0) (.int .i64 ((nt t4 t6.toNat (0, 0, 0, false)).1)) (#[.int .i64 ((nt t4 t6.toNat (0, 0, 0, false)).1), .int .i64 ((nt t4 t6.toNat (0, 0, 0, false)).2.1), .int .i64 ((nt t4 t6.toNat (0, 0, 0, false)).2.2.1), .bool ((nt t4 t6.toNat (0, 0, 0, false)).2.2.2)]) BKb10.out rfl _ rfl rfl) rfl ?_)
      | ((with_reducible refine gate_d (N := 36) rfl ?_); refine ag_fix (.pointer (some ⟨gb8, 0, none⟩)) (ex_field 48 0 (.pointer (some ⟨gb8, 0, none⟩)) (.pointer (some ⟨gb8, 0, none⟩)) (fa48_0_0 gb8) _ rfl rfl) rfl ?_)
      | ((with_reducible refine gate_d (N := 37) rfl ?_); refine ag_fix (.int .i64 t5) (ex_get sT3 gb8 (0) (.int .i64 t5) (#[.int .i64 t5, .int .i64 t6, .int .i64 t7]) BKb8.out rfl _ rfl rfl) rfl ?_))
     (try simp only [Act.put, sI, sZ, sS])
     have H := H'.out
     clear H'
     replace H := Option.bind_eq_some_iff.mp H
     obtain ⟨⟨t23, t24, t25⟩, A90_, H⟩ := H
     dsimp only at H
     have A90 := hid A90_
     clear A90_
     by_cases c97 : t25 = 0
     ·
      rw [if_pos c97] at H
      have c97b0 : (t25 == 0) = true := beq_iff_eq.mpr c97
      have c97b1 : (t25 != 0) = false := bne_eq_false_iff_eq.mpr c97
      have hc97 := hid c97
      clear c97
      simp only [Option.some.injEq, Prod.mk.injEq] at H
      obtain ⟨rfl, rfl, rfl, rfl, rfl, rfl, rfl⟩ := H
      have k98 := True.intro
      go_wp2_with (first
       | (go_at_call 32; clear k98; refine (i_lex_Number.calls k a0 t5 1 64 t23 t24 t25 _ A90.out).mono ?_; rintro e_ w99 ⟨rfl, hb_⟩; replace BKb1 := hid (BKb1.out.below hb_ BKb1.out.lt); replace BKb2 := hid (BKb2.out.below hb_ BKb2.out.lt); replace BKb8 := hid (BKb8.out.below hb_ BKb8.out.lt); replace BKb10 := hid (BKb10.out.below hb_ BKb10.out.lt); replace SWt3 := hid (SWt3.out.below hb_); replace SWt4 := hid (SWt4.out.below hb_); replace HL := hid (HL.out.trans (hb_.mono HL.out.size)); clear hb_)
       | ((with_reducible refine gate_d (N := 11) rfl ?_); obtain ⟨gb26, hgb26⟩ : ∃ g_, w99.heap.size = g_ := ⟨_, rfl⟩; refine ag_alst aT48 #[.int .i64 t23, .int .i64 t24, .int .i64 t25] gb26 hgb26 rfl (by intro v_ hv_; simp at hv_; rcases hv_ with rfl | rfl | rfl <;> first | rfl) rfl rfl 11 rfl _ _ rfl (fun _ => rfl) (fun _ => rfl) rfl ?_; intro w100 hb_ hB_ hs_; have GEb26 : Hid (w.heap.size ≤ gb26) := hid (by have := HL.out.size; omega); have NBb1_b26 : Hid (gb1 ≠ gb26) := hid (by have := BKb1.out.lt; omega); have NBb26_b1 : Hid (gb26 ≠ gb1) := hid (by have := NBb1_b26.out; omega); replace BKb1 := hid (BKb1.out.below hb_ (by rw [← hgb26]; exact BKb1.out.lt)); have NBb2_b26 : Hid (gb2 ≠ gb26) := hid (by have := BKb2.out.lt; omega); have NBb26_b2 : Hid (gb26 ≠ gb2) := hid (by have := NBb2_b26.out; omega); replace BKb2 := hid (BKb2.out.below hb_ (by rw [← hgb26]; exact BKb2.out.lt)); have NBb8_b26 : Hid (gb8 ≠ gb26) := hid (by have := BKb8.out.lt; omega); have NBb26_b8 : Hid (gb26 ≠ gb8) := hid (by have := NBb8_b26.out; omega); replace BKb8 := hid (BKb8.out.below hb_ (by rw [← hgb26]; exact BKb8.out.lt)); have NBb10_b26 : Hid (gb10 ≠ gb26) := hid (by have := BKb10.out.lt; omega); have NBb26_b10 : Hid (gb26 ≠ gb10) := hid (by have := NBb10_b26.out; omega); replace BKb10 := hid (BKb10.out.below hb_ (by rw [← hgb26]; exact BKb10.out.lt)); replace SWt3 := hid (SWt3.out.below (by rw [hgb26]; exact hb_)); replace SWt4 := hid (SWt4.out.below (by rw [hgb26]; exact hb_)); replace HL := hid (HL.out.trans (hb_.mono GEb26.out)); have BKb26 := hid hB_; clear hb_ hB_ hs_ hgb26)
       | ((with_reducible refine gate_d (N := 40) rfl ?_); refine ag_fix (.pointer (some ⟨gb26, 2, none⟩)) (ex_field 48 2 (.pointer (some ⟨gb26, 0, none⟩)) (.pointer (some ⟨gb26, 2, none⟩)) (fa48_2_0 gb26) _ rfl rfl) rfl ?_)
       | ((with_reducible refine gate_d (N := 41) rfl ?_); refine ag_fix (.int .i64 t25) (ex_get sT32 gb26 (2) (.int .i64 t25) (#[.int .i64 t23, .int .i64 t24, .int .i64 t25]) BKb26.out rfl _ rfl rfl) rfl ?_)
       | ((with_reducible refine gate_d (N := 45) rfl ?_); refine ag_fix (.pointer (some ⟨gb26, 1, none⟩)) (ex_field 48 1 (.pointer (some ⟨gb26, 0, none⟩)) (.pointer (some ⟨gb26, 1, none⟩)) (fa48_1_0 gb26) _ rfl rfl) rfl ?_)
       | ((with_reducible refine gate_d (N := 46) rfl ?_); refine ag_fix (.int .i64 t24) (ex_get sT3 gb26 (1) (.int .i64 t24) (#[.int .i64 t23, .int .i64 t24, .int .i64 t25]) BKb26.out rfl _ rfl rfl) rfl ?_)
       | ((with_reducible refine gate_d (N := 47) rfl ?_); refine ag_fix (.pointer (some ⟨gb10, 2, none⟩)) (ex_field 29 2 (.pointer (some ⟨gb10, 0, none⟩)) (.pointer (some ⟨gb10, 2, none⟩)) (fa29_2_0 gb10) _ rfl rfl) rfl ?_)
       | ((with_reducible refine gate_s (t := 3) (p := 47) rfl ?_); refine ag_set sT3 gb10 (2) (.int .i64 t24) #[.int .i64 ((nt t4 t6.toNat (0, 0, 0, false)).1), .int .i64 ((nt t4 t6.toNat (0, 0, 0, false)).2.1), .int .i64 ((nt t4 t6.toNat (0, 0, 0, false)).2.2.1), .bool ((nt t4 t6.toNat (0, 0, 0, false)).2.2.2)] #[.int .i64 ((nt t4 t6.toNat (0, 0, 0, false)).1), .int .i64 ((nt t4 t6.toNat (0, 0, 0, false)).2.1), .int .i64 t24, .bool ((nt t4 t6.toNat (0, 0, 0, false)).2.2.2)] BKb10.out (by simp) rfl rfl rfl rfl _ _ rfl rfl rfl ?_; intro w101 ho_ hB_; replace BKb1 := hid (BKb1.out.off ho_ NBb1_b10.out); replace BKb2 := hid (BKb2.out.off ho_ NBb2_b10.out); replace BKb8 := hid (BKb8.out.off ho_ NBb8_b10.out); replace BKb26 := hid (BKb26.out.off ho_ NBb26_b10.out); clear SWt4; replace SWt3 := hid (SWt3.out.off ho_ BKb10.out (by decide)); replace HL := hid (ho_.below HL.out GEb10.out); replace BKb10 := hid hB_; clear ho_ hB_)
       | ((with_reducible refine gate_d (N := 48) rfl ?_); refine ag_fix (.pointer (some ⟨gb10, 0, none⟩)) (ex_field 29 0 (.pointer (some ⟨gb10, 0, none⟩)) (.pointer (some ⟨gb10, 0, none⟩)) (fa29_0_0 gb10) _ rfl rfl) rfl ?_)
       | ((with_reducible refine gate_d (N := 49) rfl ?_); refine ag_fix (.int .i64 ((nt t4 t6.toNat (0, 0, 0, false)).1)) (ex_get sT3 gb10 (0) (.int .i64 ((nt t4 t6.toNat (0, 0, 0, false)).1)) (#[.int .i64 ((nt t4 t6.toNat (0, 0, 0, false)).1), .int .i64 ((nt t4 t6.toNat (0, 0, 0, false)).2.1), .int .i64 t24, .bool ((nt t4 t6.toNat (0, 0, 0, false)).2.2.2)]) BKb10.out rfl _ rfl rfl) rfl ?_))
      (try simp only [Act.put, sI, sZ, sS])
      have WR64 := i64_w
      have WR32 := i32_w
      have WR8 := u8_w
      have WRU := u32_w
      refine sq_region (fun w'_ => Below w.heap.size w w'_ ∧ Blk w'_ gb2 48 #[.int .i64 0, .int .i64 0, .int .i64 0] ∧ Blk w'_ gb8 48 #[.int .i64 t5, .int .i64 t6, .int .i64 t7] ∧ Blk w'_ gb10 29 #[.int .i64 ((nt t4 t6.toNat (0, 0, 0, false)).1), .int .i64 ((nt t4 t6.toNat (0, 0, 0, false)).2.1), .int .i64 t24, .bool ((nt t4 t6.toNat (0, 0, 0, false)).2.2.2)] ∧ Blk w'_ gb26 48 #[.int .i64 t23, .int .i64 t24, .int .i64 t25] ∧ Own w'_ w.heap.size 9 (ut3) (t3.map Value.string) ∧ True) [5] [(0, 1), (1, 2), (2, 1), (3, 2), (4, 0), (5, 0)] (by kernel_rfl) (by kernel_rfl) (by kernel_rfl) rfl ?_
      intro w102 hb_
      replace BKb1 := hid (BKb1.out.below hb_ BKb1.out.lt)
      replace BKb2 := hid (BKb2.out.below hb_ BKb2.out.lt)
      replace BKb8 := hid (BKb8.out.below hb_ BKb8.out.lt)
      replace BKb10 := hid (BKb10.out.below hb_ BKb10.out.lt)
      replace BKb26 := hid (BKb26.out.below hb_ BKb26.out.lt)
      replace SWt3 := hid (SWt3.out.below hb_)
      replace HL := hid (HL.out.trans (hb_.mono HL.out.size))
      clear hb_
      refine sq_take (.agg #[.int .i64 ((nt t4 t6.toNat (0, 0, 0, false)).1), .int .i64 ((nt t4 t6.toNat (0, 0, 0, false)).2.1), .int .i64 t24, .bool ((nt t4 t6.toNat (0, 0, 0, false)).2.2.2)]) ⟨HL.out, BKb2.out, BKb8.out, BKb10.out, BKb26.out, SWt3.out, trivial⟩ rfl (fun w'_ hS_ => ex_load aT29 gb10 0 #[.int .i64 ((nt t4 t6.toNat (0, 0, 0, false)).1), .int .i64 ((nt t4 t6.toNat (0, 0, 0, false)).2.1), .int .i64 t24, .bool ((nt t4 t6.toNat (0, 0, 0, false)).2.2.2)] #[.int .i64 ((nt t4 t6.toNat (0, 0, 0, false)).1), .int .i64 ((nt t4 t6.toNat (0, 0, 0, false)).2.1), .int .i64 t24, .bool ((nt t4 t6.toNat (0, 0, 0, false)).2.2.2)] hS_.2.2.2.1 (by simp) rfl _ rfl rfl) rfl rfl ?_
      intro ts_ ht_; simp only [sI, sZ, sS] at ht_; subst ht_
      refine sq_pure (.pointer (some ⟨gb26, 0, none⟩)) rfl (fun w'_ => ex_field 48 0 (.pointer (some ⟨gb26, 0, none⟩)) (.pointer (some ⟨gb26, 0, none⟩)) (fa48_0_0 gb26) _ rfl rfl) rfl rfl ?_
      intro ts_ ht_; simp only [sI, sZ, sS] at ht_; subst ht_
      refine sq_take (.int .i64 t23) ⟨HL.out, BKb2.out, BKb8.out, BKb10.out, BKb26.out, SWt3.out, trivial⟩ rfl (fun w'_ hS_ => ex_get sT3 gb26 (0) (.int .i64 t23) (#[.int .i64 t23, .int .i64 t24, .int .i64 t25]) hS_.2.2.2.2.1 rfl _ rfl rfl) rfl rfl ?_
      intro ts_ ht_; simp only [sI, sZ, sS] at ht_; subst ht_
      refine sq_pure (.agg #[.int .i64 t23, .int .i64 0, .int .i64 0]) rfl (fun w'_ => ex_build (.agg #[.int .i64 t23, .int .i64 0, .int .i64 0]) _ rfl (by intro ww_; simp only [List.map_toArray, List.map_cons, List.map_nil]; kernel_rfl)) rfl rfl ?_
      intro ts_ ht_; simp only [sI, sZ, sS] at ht_; subst ht_
      refine sq_act rfl (fun Q'_ hQ_ => ?_)
      (with_reducible refine gate_s (t := 29) (p := 4) rfl ?_)
      refine ag_store aT29 gb1 0 #[.int .i64 0, .int .i64 0, .int .i64 0, .bool false] #[.int .i64 ((nt t4 t6.toNat (0, 0, 0, false)).1), .int .i64 ((nt t4 t6.toNat (0, 0, 0, false)).2.1), .int .i64 t24, .bool ((nt t4 t6.toNat (0, 0, 0, false)).2.2.2)] #[.int .i64 ((nt t4 t6.toNat (0, 0, 0, false)).1), .int .i64 ((nt t4 t6.toNat (0, 0, 0, false)).2.1), .int .i64 t24, .bool ((nt t4 t6.toNat (0, 0, 0, false)).2.2.2)] BKb1.out rfl (by simp) (by intro v_ hv_; simp at hv_; rcases hv_ with rfl | rfl | rfl | rfl <;> first | rfl) rfl rfl _ _ rfl rfl rfl ?_
      intro w103 ho_ hB_
      replace BKb2 := hid (BKb2.out.off ho_ NBb2_b1.out)
      replace BKb8 := hid (BKb8.out.off ho_ NBb8_b1.out)
      replace BKb10 := hid (BKb10.out.off ho_ NBb10_b1.out)
      replace BKb26 := hid (BKb26.out.off ho_ NBb26_b1.out)
      replace SWt3 := hid (SWt3.out.off ho_ BKb1.out (by decide))
      replace HL := hid (ho_.below HL.out GEb1.out)
      replace BKb1 := hid hB_
      clear ho_ hB_
      refine act_end ?_
      refine hQ_ _ _ (fun _ => ⟨HL.out, BKb2.out, BKb8.out, BKb10.out, BKb26.out, SWt3.out, trivial⟩) ?_
      clear hQ_ Q'_
      simp only [Act.put]
      refine sq_act rfl (fun Q'_ hQ_ => ?_)
      (with_reducible refine gate_s (t := 48) (p := 5) rfl ?_)
      refine ag_store aT48 gb2 0 #[.int .i64 0, .int .i64 0, .int .i64 0] #[.int .i64 t23, .int .i64 0, .int .i64 0] #[.int .i64 t23, .int .i64 0, .int .i64 0] BKb2.out rfl (by simp) (by intro v_ hv_; simp at hv_; rcases hv_ with rfl | rfl | rfl <;> first | rfl) rfl rfl _ _ rfl rfl rfl ?_
      intro w104 ho_ hB_
      replace BKb1 := hid (BKb1.out.off ho_ NBb1_b2.out)
      replace BKb8 := hid (BKb8.out.off ho_ NBb8_b2.out)
      replace BKb10 := hid (BKb10.out.off ho_ NBb10_b2.out)
      replace BKb26 := hid (BKb26.out.off ho_ NBb26_b2.out)
      replace SWt3 := hid (SWt3.out.off ho_ BKb2.out (by decide))
      replace HL := hid (ho_.below HL.out GEb2.out)
      replace BKb2 := hid hB_
      clear ho_ hB_
      refine act_end ?_
      refine hQ_ _ _ (fun h_ => absurd h_ (by decide)) ?_
      clear hQ_ Q'_
      simp only [Act.put]
      refine sq_end ?_
      clear WR64 WR32 WR8 WRU
      go_wp2_with fail
      (try simp only [Act.put, sI, sZ, sS])
      refine bodyPost_ret (v := .tuple #[.agg #[.int .i64 ((nt t4 t6.toNat (0, 0, 0, false)).1), .int .i64 ((nt t4 t6.toNat (0, 0, 0, false)).2.1), .int .i64 t24, .bool ((nt t4 t6.toNat (0, 0, 0, false)).2.2.2)], .agg #[.int .i64 t23, .int .i64 0, .int .i64 0]]) (res_cc aT29 aT48 rfl _ gb1 gb2 #[.int .i64 ((nt t4 t6.toNat (0, 0, 0, false)).1), .int .i64 ((nt t4 t6.toNat (0, 0, 0, false)).2.1), .int .i64 t24, .bool ((nt t4 t6.toNat (0, 0, 0, false)).2.2.2)] #[.int .i64 t23, .int .i64 0, .int .i64 0] BKb1.out rfl rfl BKb2.out rfl rfl) rfl ?_
      exact ⟨by first | rfl | (simp; done) | (simp [*]; done), HL.out⟩
     ·
      rw [if_neg c97] at H
      have c97b0 : (t25 == 0) = false := beq_eq_false_iff_ne.mpr c97
      have c97b1 : (t25 != 0) = true := bne_iff_ne.mpr c97
      have hc97 := hid c97
      clear c97
      simp only [Option.some.injEq, Prod.mk.injEq] at H
      obtain ⟨rfl, rfl, rfl, rfl, rfl, rfl, rfl⟩ := H
      have k105 := True.intro
      go_wp2_with (first
       | (go_at_call 32; clear k105; refine (i_lex_Number.calls k a0 t5 1 64 t23 t24 t25 _ A90.out).mono ?_; rintro e_ w106 ⟨rfl, hb_⟩; replace BKb1 := hid (BKb1.out.below hb_ BKb1.out.lt); replace BKb2 := hid (BKb2.out.below hb_ BKb2.out.lt); replace BKb8 := hid (BKb8.out.below hb_ BKb8.out.lt); replace BKb10 := hid (BKb10.out.below hb_ BKb10.out.lt); replace SWt3 := hid (SWt3.out.below hb_); replace SWt4 := hid (SWt4.out.below hb_); replace HL := hid (HL.out.trans (hb_.mono HL.out.size)); clear hb_)
       | ((with_reducible refine gate_d (N := 11) rfl ?_); obtain ⟨gb26, hgb26⟩ : ∃ g_, w106.heap.size = g_ := ⟨_, rfl⟩; refine ag_alst aT48 #[.int .i64 t23, .int .i64 t24, .int .i64 t25] gb26 hgb26 rfl (by intro v_ hv_; simp at hv_; rcases hv_ with rfl | rfl | rfl <;> first | rfl) rfl rfl 11 rfl _ _ rfl (fun _ => rfl) (fun _ => rfl) rfl ?_; intro w107 hb_ hB_ hs_; have GEb26 : Hid (w.heap.size ≤ gb26) := hid (by have := HL.out.size; omega); have NBb1_b26 : Hid (gb1 ≠ gb26) := hid (by have := BKb1.out.lt; omega); have NBb26_b1 : Hid (gb26 ≠ gb1) := hid (by have := NBb1_b26.out; omega); replace BKb1 := hid (BKb1.out.below hb_ (by rw [← hgb26]; exact BKb1.out.lt)); have NBb2_b26 : Hid (gb2 ≠ gb26) := hid (by have := BKb2.out.lt; omega); have NBb26_b2 : Hid (gb26 ≠ gb2) := hid (by have := NBb2_b26.out; omega); replace BKb2 := hid (BKb2.out.below hb_ (by rw [← hgb26]; exact BKb2.out.lt)); have NBb8_b26 : Hid (gb8 ≠ gb26) := hid (by have := BKb8.out.lt; omega); have NBb26_b8 : Hid (gb26 ≠ gb8) := hid (by have := NBb8_b26.out; omega); replace BKb8 := hid (BKb8.out.below hb_ (by rw [← hgb26]; exact BKb8.out.lt)); have NBb10_b26 : Hid (gb10 ≠ gb26) := hid (by have := BKb10.out.lt; omega); have NBb26_b10 : Hid (gb26 ≠ gb10) := hid (by have := NBb10_b26.out; omega); replace BKb10 := hid (BKb10.out.below hb_ (by rw [← hgb26]; exact BKb10.out.lt)); replace SWt3 := hid (SWt3.out.below (by rw [hgb26]; exact hb_)); replace SWt4 := hid (SWt4.out.below (by rw [hgb26]; exact hb_)); replace HL := hid (HL.out.trans (hb_.mono GEb26.out)); have BKb26 := hid hB_; clear hb_ hB_ hs_ hgb26)
       | ((with_reducible refine gate_d (N := 40) rfl ?_); refine ag_fix (.pointer (some ⟨gb26, 2, none⟩)) (ex_field 48 2 (.pointer (some ⟨gb26, 0, none⟩)) (.pointer (some ⟨gb26, 2, none⟩)) (fa48_2_0 gb26) _ rfl rfl) rfl ?_)
       | ((with_reducible refine gate_d (N := 41) rfl ?_); refine ag_fix (.int .i64 t25) (ex_get sT32 gb26 (2) (.int .i64 t25) (#[.int .i64 t23, .int .i64 t24, .int .i64 t25]) BKb26.out rfl _ rfl rfl) rfl ?_))
      (try simp only [Act.put, sI, sZ, sS])
      have WR64 := i64_w
      have WR32 := i32_w
      have WR8 := u8_w
      have WRU := u32_w
      refine sq_region (fun w'_ => Below w.heap.size w w'_ ∧ Blk w'_ gb2 48 #[.int .i64 0, .int .i64 0, .int .i64 0] ∧ Blk w'_ gb8 48 #[.int .i64 t5, .int .i64 t6, .int .i64 t7] ∧ Blk w'_ gb10 29 #[.int .i64 ((nt t4 t6.toNat (0, 0, 0, false)).1), .int .i64 ((nt t4 t6.toNat (0, 0, 0, false)).2.1), .int .i64 ((nt t4 t6.toNat (0, 0, 0, false)).2.2.1), .bool ((nt t4 t6.toNat (0, 0, 0, false)).2.2.2)] ∧ Blk w'_ gb26 48 #[.int .i64 t23, .int .i64 t24, .int .i64 t25] ∧ Own w'_ w.heap.size 9 (ut3) (t3.map Value.string) ∧ True) [3] [(0, 2), (1, 1), (2, 0), (3, 0)] (by kernel_rfl) (by kernel_rfl) (by kernel_rfl) rfl ?_
      intro w108 hb_
      replace BKb1 := hid (BKb1.out.below hb_ BKb1.out.lt)
      replace BKb2 := hid (BKb2.out.below hb_ BKb2.out.lt)
      replace BKb8 := hid (BKb8.out.below hb_ BKb8.out.lt)
      replace BKb10 := hid (BKb10.out.below hb_ BKb10.out.lt)
      replace BKb26 := hid (BKb26.out.below hb_ BKb26.out.lt)
      replace SWt3 := hid (SWt3.out.below hb_)
      replace SWt4 := hid (SWt4.out.below hb_)
      replace HL := hid (HL.out.trans (hb_.mono HL.out.size))
      clear hb_
      refine sq_pure (.agg #[.int .i64 0, .int .i64 0, .int .i64 0, .bool false]) rfl (fun w'_ => ex_build (.agg #[.int .i64 0, .int .i64 0, .int .i64 0, .bool false]) _ rfl (by intro ww_; kernel_rfl)) rfl rfl ?_
      intro ts_ ht_; simp only [sI, sZ, sS] at ht_; subst ht_
      refine sq_take (.agg #[.int .i64 t23, .int .i64 t24, .int .i64 t25]) ⟨HL.out, BKb2.out, BKb8.out, BKb10.out, BKb26.out, SWt3.out, trivial⟩ rfl (fun w'_ hS_ => ex_load aT48 gb26 0 #[.int .i64 t23, .int .i64 t24, .int .i64 t25] #[.int .i64 t23, .int .i64 t24, .int .i64 t25] hS_.2.2.2.2.1 (by simp) rfl _ rfl rfl) rfl rfl ?_
      intro ts_ ht_; simp only [sI, sZ, sS] at ht_; subst ht_
      refine sq_act rfl (fun Q'_ hQ_ => ?_)
      (with_reducible refine gate_s (t := 29) (p := 4) rfl ?_)
      refine ag_store aT29 gb1 0 #[.int .i64 0, .int .i64 0, .int .i64 0, .bool false] #[.int .i64 0, .int .i64 0, .int .i64 0, .bool false] #[.int .i64 0, .int .i64 0, .int .i64 0, .bool false] BKb1.out rfl (by simp) (by intro v_ hv_; simp at hv_; rcases hv_ with rfl | rfl | rfl | rfl <;> first | rfl) rfl rfl _ _ rfl rfl rfl ?_
      intro w109 ho_ hB_
      replace BKb2 := hid (BKb2.out.off ho_ NBb2_b1.out)
      replace BKb8 := hid (BKb8.out.off ho_ NBb8_b1.out)
      replace BKb10 := hid (BKb10.out.off ho_ NBb10_b1.out)
      replace BKb26 := hid (BKb26.out.off ho_ NBb26_b1.out)
      clear SWt4
      replace SWt3 := hid (SWt3.out.off ho_ BKb1.out (by decide))
      replace HL := hid (ho_.below HL.out GEb1.out)
      replace BKb1 := hid hB_
      clear ho_ hB_
      refine act_end ?_
      refine hQ_ _ _ (fun _ => ⟨HL.out, BKb2.out, BKb8.out, BKb10.out, BKb26.out, SWt3.out, trivial⟩) ?_
      clear hQ_ Q'_
      simp only [Act.put]
      refine sq_act rfl (fun Q'_ hQ_ => ?_)
      (with_reducible refine gate_s (t := 48) (p := 5) rfl ?_)
      refine ag_store aT48 gb2 0 #[.int .i64 0, .int .i64 0, .int .i64 0] #[.int .i64 t23, .int .i64 t24, .int .i64 t25] #[.int .i64 t23, .int .i64 t24, .int .i64 t25] BKb2.out rfl (by simp) (by intro v_ hv_; simp at hv_; rcases hv_ with rfl | rfl | rfl <;> first | rfl) rfl rfl _ _ rfl rfl rfl ?_
      intro w110 ho_ hB_
      replace BKb1 := hid (BKb1.out.off ho_ NBb1_b2.out)
      replace BKb8 := hid (BKb8.out.off ho_ NBb8_b2.out)
      replace BKb10 := hid (BKb10.out.off ho_ NBb10_b2.out)
      replace BKb26 := hid (BKb26.out.off ho_ NBb26_b2.out)
      replace SWt3 := hid (SWt3.out.off ho_ BKb2.out (by decide))
      replace HL := hid (ho_.below HL.out GEb2.out)
      replace BKb2 := hid hB_
      clear ho_ hB_
      refine act_end ?_
      refine hQ_ _ _ (fun h_ => absurd h_ (by decide)) ?_
      clear hQ_ Q'_
      simp only [Act.put]
      refine sq_end ?_
      clear WR64 WR32 WR8 WRU
      go_wp2_with fail
      (try simp only [Act.put, sI, sZ, sS])
      refine bodyPost_ret (v := .tuple #[.agg #[.int .i64 0, .int .i64 0, .int .i64 0, .bool false], .agg #[.int .i64 t23, .int .i64 t24, .int .i64 t25]]) (res_cc aT29 aT48 rfl _ gb1 gb2 #[.int .i64 0, .int .i64 0, .int .i64 0, .bool false] #[.int .i64 t23, .int .i64 t24, .int .i64 t25] BKb1.out rfl rfl BKb2.out rfl rfl) rfl ?_
      exact ⟨by first | rfl | (simp; done) | (simp [*]; done), HL.out⟩
   ·
    rw [if_neg c35] at H
    exact absurd H (by simp)
  ·
   rw [if_neg c34] at H
   exact absurd H (by simp)
 ·
  rw [if_neg c33] at H
  have c33b0 : (t7 == 0) = false := beq_eq_false_iff_ne.mpr c33
  have c33b1 : (t7 != 0) = true := bne_iff_ne.mpr c33
  have hc33 := hid c33
  clear c33
  simp only [Option.some.injEq, Prod.mk.injEq] at H
  obtain ⟨rfl, rfl, rfl, rfl, rfl, rfl, rfl⟩ := H
  have k111 := True.intro
  go_wp2_with (first
   | (go_at_call 30; clear k111; refine (i_lex_OneOf.calls k a0 a1 (ut3) t3 t5 t6 t7 _ SWt3.out.sl A28.out).mono ?_; rintro e_ w112 ⟨rfl, hb_⟩; replace BKb1 := hid (BKb1.out.below hb_ BKb1.out.lt); replace BKb2 := hid (BKb2.out.below hb_ BKb2.out.lt); replace SWt3 := hid (SWt3.out.below hb_); replace SWt4 := hid (SWt4.out.below hb_); replace HL := hid (HL.out.trans (hb_.mono HL.out.size)); clear hb_)
   | ((with_reducible refine gate_d (N := 8) rfl ?_); obtain ⟨gb8, hgb8⟩ : ∃ g_, w112.heap.size = g_ := ⟨_, rfl⟩; refine ag_alst aT48 #[.int .i64 t5, .int .i64 t6, .int .i64 t7] gb8 hgb8 rfl (by intro v_ hv_; simp at hv_; rcases hv_ with rfl | rfl | rfl <;> first | rfl) rfl rfl 8 rfl _ _ rfl (fun _ => rfl) (fun _ => rfl) rfl ?_; intro w113 hb_ hB_ hs_; have GEb8 : Hid (w.heap.size ≤ gb8) := hid (by have := HL.out.size; omega); have NBb1_b8 : Hid (gb1 ≠ gb8) := hid (by have := BKb1.out.lt; omega); have NBb8_b1 : Hid (gb8 ≠ gb1) := hid (by have := NBb1_b8.out; omega); replace BKb1 := hid (BKb1.out.below hb_ (by rw [← hgb8]; exact BKb1.out.lt)); have NBb2_b8 : Hid (gb2 ≠ gb8) := hid (by have := BKb2.out.lt; omega); have NBb8_b2 : Hid (gb8 ≠ gb2) := hid (by have := NBb2_b8.out; omega); replace BKb2 := hid (BKb2.out.below hb_ (by rw [← hgb8]; exact BKb2.out.lt)); replace SWt3 := hid (SWt3.out.below (by rw [hgb8]; exact hb_)); replace SWt4 := hid (SWt4.out.below (by rw [hgb8]; exact hb_)); replace HL := hid (HL.out.trans (hb_.mono GEb8.out)); have BKb8 := hid hB_; clear hb_ hB_ hs_ hgb8)
   | ((with_reducible refine gate_d (N := 22) rfl ?_); refine ag_fix (.pointer (some ⟨gb8, 2, none⟩)) (ex_field 48 2 (.pointer (some ⟨gb8, 0, none⟩)) (.pointer (some ⟨gb8, 2, none⟩)) (fa48_2_0 gb8) _ rfl rfl) rfl ?_)
   | ((with_reducible refine gate_d (N := 23) rfl ?_); refine ag_fix (.int .i64 t7) (ex_get sT32 gb8 (2) (.int .i64 t7) (#[.int .i64 t5, .int .i64 t6, .int .i64 t7]) BKb8.out rfl _ rfl rfl) rfl ?_))
  (try simp only [Act.put, sI, sZ, sS])
  have WR64 := i64_w
  have WR32 := i32_w
  have WR8 := u8_w
  have WRU := u32_w
  refine sq_region (fun w'_ => Below w.heap.size w w'_ ∧ Blk w'_ gb2 48 #[.int .i64 0, .int .i64 0, .int .i64 0] ∧ Blk w'_ gb8 48 #[.int .i64 t5, .int .i64 t6, .int .i64 t7] ∧ Own w'_ w.heap.size 9 (ut3) (t3.map Value.string) ∧ True) [3] [(0, 2), (1, 1), (2, 0), (3, 0)] (by kernel_rfl) (by kernel_rfl) (by kernel_rfl) rfl ?_
  intro w114 hb_
  replace BKb1 := hid (BKb1.out.below hb_ BKb1.out.lt)
  replace BKb2 := hid (BKb2.out.below hb_ BKb2.out.lt)
  replace BKb8 := hid (BKb8.out.below hb_ BKb8.out.lt)
  replace SWt3 := hid (SWt3.out.below hb_)
  replace SWt4 := hid (SWt4.out.below hb_)
  replace HL := hid (HL.out.trans (hb_.mono HL.out.size))
  clear hb_
  refine sq_pure (.agg #[.int .i64 0, .int .i64 0, .int .i64 0, .bool false]) rfl (fun w'_ => ex_build (.agg #[.int .i64 0, .int .i64 0, .int .i64 0, .bool false]) _ rfl (by intro ww_; kernel_rfl)) rfl rfl ?_
  intro ts_ ht_; simp only [sI, sZ, sS] at ht_; subst ht_
  refine sq_take (.agg #[.int .i64 t5, .int .i64 t6, .int .i64 t7]) ⟨HL.out, BKb2.out, BKb8.out, SWt3.out, trivial⟩ rfl (fun w'_ hS_ => ex_load aT48 gb8 0 #[.int .i64 t5, .int .i64 t6, .int .i64 t7] #[.int .i64 t5, .int .i64 t6, .int .i64 t7] hS_.2.2.1 (by simp) rfl _ rfl rfl) rfl rfl ?_
  intro ts_ ht_; simp only [sI, sZ, sS] at ht_; subst ht_
  refine sq_act rfl (fun Q'_ hQ_ => ?_)
  (with_reducible refine gate_s (t := 29) (p := 4) rfl ?_)
  refine ag_store aT29 gb1 0 #[.int .i64 0, .int .i64 0, .int .i64 0, .bool false] #[.int .i64 0, .int .i64 0, .int .i64 0, .bool false] #[.int .i64 0, .int .i64 0, .int .i64 0, .bool false] BKb1.out rfl (by simp) (by intro v_ hv_; simp at hv_; rcases hv_ with rfl | rfl | rfl | rfl <;> first | rfl) rfl rfl _ _ rfl rfl rfl ?_
  intro w115 ho_ hB_
  replace BKb2 := hid (BKb2.out.off ho_ NBb2_b1.out)
  replace BKb8 := hid (BKb8.out.off ho_ NBb8_b1.out)
  clear SWt4
  replace SWt3 := hid (SWt3.out.off ho_ BKb1.out (by decide))
  replace HL := hid (ho_.below HL.out GEb1.out)
  replace BKb1 := hid hB_
  clear ho_ hB_
  refine act_end ?_
  refine hQ_ _ _ (fun _ => ⟨HL.out, BKb2.out, BKb8.out, SWt3.out, trivial⟩) ?_
  clear hQ_ Q'_
  simp only [Act.put]
  refine sq_act rfl (fun Q'_ hQ_ => ?_)
  (with_reducible refine gate_s (t := 48) (p := 5) rfl ?_)
  refine ag_store aT48 gb2 0 #[.int .i64 0, .int .i64 0, .int .i64 0] #[.int .i64 t5, .int .i64 t6, .int .i64 t7] #[.int .i64 t5, .int .i64 t6, .int .i64 t7] BKb2.out rfl (by simp) (by intro v_ hv_; simp at hv_; rcases hv_ with rfl | rfl | rfl <;> first | rfl) rfl rfl _ _ rfl rfl rfl ?_
  intro w116 ho_ hB_
  replace BKb1 := hid (BKb1.out.off ho_ NBb1_b2.out)
  replace BKb8 := hid (BKb8.out.off ho_ NBb8_b2.out)
  replace SWt3 := hid (SWt3.out.off ho_ BKb2.out (by decide))
  replace HL := hid (ho_.below HL.out GEb2.out)
  replace BKb2 := hid hB_
  clear ho_ hB_
  refine act_end ?_
  refine hQ_ _ _ (fun h_ => absurd h_ (by decide)) ?_
  clear hQ_ Q'_
  simp only [Act.put]
  refine sq_end ?_
  clear WR64 WR32 WR8 WRU
  go_wp2_with fail
  (try simp only [Act.put, sI, sZ, sS])
  refine bodyPost_ret (v := .tuple #[.agg #[.int .i64 0, .int .i64 0, .int .i64 0, .bool false], .agg #[.int .i64 t5, .int .i64 t6, .int .i64 t7]]) (res_cc aT29 aT48 rfl _ gb1 gb2 #[.int .i64 0, .int .i64 0, .int .i64 0, .bool false] #[.int .i64 t5, .int .i64 t6, .int .i64 t7] BKb1.out rfl rfl BKb2.out rfl rfl) rfl ?_
  exact ⟨by first | rfl | (simp; done) | (simp [*]; done), HL.out⟩
end Go.Proofs.Ytaipghemddjecaa
