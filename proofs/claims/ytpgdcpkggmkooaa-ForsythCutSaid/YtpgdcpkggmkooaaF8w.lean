/- The walk of the reference of boards that are written. -/
import Derived.Test.YtpgdcpkggmkooaaProg
import Derived.Test.YtpgdcpkggmkooaaF4w
namespace Go.Proofs.Ytpgdcpkggmkooaa
open Go.RowKit
set_option linter.unusedVariables false
set_option linter.unusedSimpArgs false

/-! i_alfilref04_Write: function 40 -/
mutual
def i_alfilref04_Write.l0 : Nat → List Int → ByteArray → Int → Option (ByteArray × Int)
  | 0, _, _, _ => none
  | k + 1, a0, x4_0, x5_0 => if x5_0 ≥ 0 then (i_alfilref04_Write.l1 k a0 x5_0 x4_0 0 0) else (some (x4_0, 0))
def i_alfilref04_Write.l1 : Nat → List Int → Int → ByteArray → Int → Int → Option (ByteArray × Int)
  | 0, _, _, _, _, _ => none
  | k + 1, a0, x5_0, x4_1, x6_1, x7_1 => if x7_1 < 8 then (if 0 ≤ (wrap64 ((wrap64 (8 * x5_0)) + x7_1)) then (if (wrap64 ((wrap64 (8 * x5_0)) + x7_1)) < 64 then (if (wrap64 (nt a0 ((wrap64 ((wrap64 (8 * x5_0)) + x7_1)).toNat) 0)) = 0 then (if (wrap64 (x6_1 + 1)) > 0 then (if x7_1 = 7 then (if 0 ≤ (wrap64 (x6_1 + 1)) then (if (wrap64 (x6_1 + 1)) ≤ (wrap64 ((wrap64 (x6_1 + 1)) + 1)) then (if (wrap64 ((wrap64 (x6_1 + 1)) + 1)) ≤ 9 then (if x4_1.size + ((⟨#[48, 49, 50, 51, 52, 53, 54, 55, 56]⟩ : ByteArray).extract ((wrap64 (x6_1 + 1)) : Int).toNat ((wrap64 ((wrap64 (x6_1 + 1)) + 1)) : Int).toNat).size ≤ 9223372036854775807 then (if (x4_1 ++ ((⟨#[48, 49, 50, 51, 52, 53, 54, 55, 56]⟩ : ByteArray).extract ((wrap64 (x6_1 + 1)) : Int).toNat ((wrap64 ((wrap64 (x6_1 + 1)) + 1)) : Int).toNat)).size + (letterB (wrap64 (nt a0 ((wrap64 ((wrap64 (8 * x5_0)) + x7_1)).toNat) 0))).size ≤ 9223372036854775807 then (i_alfilref04_Write.l1 k a0 x5_0 ((x4_1 ++ ((⟨#[48, 49, 50, 51, 52, 53, 54, 55, 56]⟩ : ByteArray).extract ((wrap64 (x6_1 + 1)) : Int).toNat ((wrap64 ((wrap64 (x6_1 + 1)) + 1)) : Int).toNat)) ++ (letterB (wrap64 (nt a0 ((wrap64 ((wrap64 (8 * x5_0)) + x7_1)).toNat) 0)))) 0 (wrap64 (x7_1 + 1))) else (none)) else (none)) else (none)) else (none)) else (none)) else (if x4_1.size + (letterB (wrap64 (nt a0 ((wrap64 ((wrap64 (8 * x5_0)) + x7_1)).toNat) 0))).size ≤ 9223372036854775807 then (i_alfilref04_Write.l1 k a0 x5_0 (x4_1 ++ (letterB (wrap64 (nt a0 ((wrap64 ((wrap64 (8 * x5_0)) + x7_1)).toNat) 0)))) (wrap64 (x6_1 + 1)) (wrap64 (x7_1 + 1))) else (none))) else (if x4_1.size + (letterB (wrap64 (nt a0 ((wrap64 ((wrap64 (8 * x5_0)) + x7_1)).toNat) 0))).size ≤ 9223372036854775807 then (i_alfilref04_Write.l1 k a0 x5_0 (x4_1 ++ (letterB (wrap64 (nt a0 ((wrap64 ((wrap64 (8 * x5_0)) + x7_1)).toNat) 0)))) (wrap64 (x6_1 + 1)) (wrap64 (x7_1 + 1))) else (none))) else (if x6_1 > 0 then (if 0 ≤ x6_1 then (if x6_1 ≤ (wrap64 (x6_1 + 1)) then (if (wrap64 (x6_1 + 1)) ≤ 9 then (if x4_1.size + ((⟨#[48, 49, 50, 51, 52, 53, 54, 55, 56]⟩ : ByteArray).extract (x6_1 : Int).toNat ((wrap64 (x6_1 + 1)) : Int).toNat).size ≤ 9223372036854775807 then (if (x4_1 ++ ((⟨#[48, 49, 50, 51, 52, 53, 54, 55, 56]⟩ : ByteArray).extract (x6_1 : Int).toNat ((wrap64 (x6_1 + 1)) : Int).toNat)).size + (letterB (wrap64 (nt a0 ((wrap64 ((wrap64 (8 * x5_0)) + x7_1)).toNat) 0))).size ≤ 9223372036854775807 then (i_alfilref04_Write.l1 k a0 x5_0 ((x4_1 ++ ((⟨#[48, 49, 50, 51, 52, 53, 54, 55, 56]⟩ : ByteArray).extract (x6_1 : Int).toNat ((wrap64 (x6_1 + 1)) : Int).toNat)) ++ (letterB (wrap64 (nt a0 ((wrap64 ((wrap64 (8 * x5_0)) + x7_1)).toNat) 0)))) 0 (wrap64 (x7_1 + 1))) else (none)) else (none)) else (none)) else (none)) else (none)) else (if x4_1.size + (letterB (wrap64 (nt a0 ((wrap64 ((wrap64 (8 * x5_0)) + x7_1)).toNat) 0))).size ≤ 9223372036854775807 then (i_alfilref04_Write.l1 k a0 x5_0 (x4_1 ++ (letterB (wrap64 (nt a0 ((wrap64 ((wrap64 (8 * x5_0)) + x7_1)).toNat) 0)))) x6_1 (wrap64 (x7_1 + 1))) else (none)))) else (none)) else (none)) else (if x5_0 > 0 then (if x4_1.size + 1 ≤ 9223372036854775807 then (i_alfilref04_Write.l0 k a0 (x4_1 ++ (⟨#[47]⟩ : ByteArray)) (wrap64 (x5_0 - 1))) else (none)) else (i_alfilref04_Write.l0 k a0 x4_1 (wrap64 (x5_0 - 1))))
end
def i_alfilref04_Write.f (k : Nat) (a0 : List Int) : Option (ByteArray × Int) := (i_alfilref03_Right.f k a0).bind fun t190 => (if t190 = true then (i_alfilref04_Write.l0 k a0 (⟨#[]⟩ : ByteArray) 7) else (some ((⟨#[]⟩ : ByteArray), 5)))
set_option maxHeartbeats 40000000 in
set_option maxRecDepth 100000 in
theorem i_alfilref04_Write.calls (k : Nat) (a0 : List Int) (hla0 : a0.length = 64) (r1 : ByteArray) (r2 : Int) (w : World) (h : i_alfilref04_Write.f k a0 = some (r1, r2)) :
    Calls Try.prog 40 #[.agg (bv a0)] w fun e w' => e = .returned (.tuple #[.string r1, .int .i64 r2]) ∧ Below w.heap.size w w' := by
  have LN_a0 := hid hla0
  clear hla0
  have HL := hid (Below.refl w.heap.size w)
  have H : ((i_alfilref03_Right.f k a0).bind fun t190 => (if t190 = true then (i_alfilref04_Write.l0 k a0 (⟨#[]⟩ : ByteArray) 7) else (some ((⟨#[]⟩ : ByteArray), 5)))) = some (r1, r2) := h
  clear h
  replace H := Option.bind_eq_some_iff.mp H
  obtain ⟨t190, A191_, H⟩ := H
  replace H : (if t190 = true then (i_alfilref04_Write.l0 k a0 (⟨#[]⟩ : ByteArray) 7) else (some ((⟨#[]⟩ : ByteArray), 5))) = some (r1, r2) := H
  have A191 := hid A191_
  clear A191_
  cases t190 with
  | true =>
    rw [if_pos rfl] at H
    have H' := hid H
    clear H
    go_enter Try.func40, Try.ntmps40
    have k194 := True.intro
    go_wp2_with (first
      | ((with_reducible refine gate_d (N := 1) rfl ?_); obtain ⟨gb189, hgb189⟩ : ∃ g_, w.heap.size = g_ := ⟨_, rfl⟩; refine ag_box (bv a0) gb189 hgb189 rfl _ rfl rfl ?_; intro w193 hb_ hB_ hs_; have GEb189 : Hid (w.heap.size ≤ gb189) := hid (by have := HL.out.size; omega); replace HL := hid (HL.out.trans (hb_.mono GEb189.out)); have BKb189 := hid hB_; clear hb_ hB_ hs_ hgb189)
      | ((with_reducible refine gate_d (N := 9) rfl ?_); refine ag_fix (.agg (bv a0)) (ex_load boardT gb189 0 (bv a0) (bv a0) BKb189.out (av_le (by first | rfl | (simp only [List.length_set, List.length_replicate, zL_len, List.length_cons, List.length_nil, LN_a0.out]; done) | (simp [zL_len, LN_a0.out]; done))) (av_ex (by first | rfl | (simp only [List.length_set, List.length_replicate, zL_len, List.length_cons, List.length_nil, LN_a0.out]; done) | (simp [zL_len, LN_a0.out]; done))) _ rfl rfl) rfl ?_)
      | (go_at_call 20; clear k194; refine (i_alfilref03_Right.calls k a0 (by first | rfl | (simp only [List.length_set, List.length_replicate, zL_len, List.length_cons, List.length_nil, LN_a0.out]; done) | (simp [zL_len, LN_a0.out]; done)) true _ A191.out).mono ?_; rintro e_ w195 ⟨rfl, hb_⟩; replace BKb189 := hid (BKb189.out.below hb_ BKb189.out.lt); replace HL := hid (HL.out.trans (hb_.mono HL.out.size)); clear hb_))
    (try simp only [Act.put, List.setIfInBounds_toArray, List.set_cons_zero, List.set_cons_succ])
    go_loopg [4, 5] k (fun kq v4 v5 w' => ∃ (x4_0 : ByteArray) (x5_0 : Int), v4 = .string x4_0 ∧ v5 = .int .i64 x5_0 ∧ Hid (i_alfilref04_Write.l0 kq a0 x4_0 x5_0 = some (r1, r2)) ∧ Hid (kq ≤ k) ∧ Hid (Blk w' gb189 24 (bv a0)) ∧ Hid (Below w.heap.size w w'))
    case atStart => exact ⟨(⟨#[]⟩ : ByteArray), (7 : Int), (by first | rfl | (simp; done) | (simp [*]; done)), (by first | rfl | (simp; done) | (simp [*]; done)), H', (hid (by first | omega | (omega))), (hid (by exact BKb189.out)), HL⟩
    case round =>
      clear H'
      clear HL BKb189
      obtain ⟨x4_0, x5_0, rfl, rfl, HA, HK196, BKb189, HL⟩ := hrel
      cases gk with
      | zero => exact absurd HA.out (by simp [i_alfilref04_Write.l0])
      | succ k197 =>
        have H := HA.out
        clear HA
        simp only [i_alfilref04_Write.l0] at H
        by_cases c198 : x5_0 ≥ 0
        · rw [if_pos c198] at H
          have c198b0 : decide (0 ≤ x5_0) = true := decide_eq_true c198
          have hc198 := hid c198
          clear c198
          have H' := hid H
          clear H
          go_wp2_with fail
          (try simp only [Act.put, List.setIfInBounds_toArray, List.set_cons_zero, List.set_cons_succ])
          go_loopg [4, 6, 7] k197 (fun kq v4 v6 v7 w' => ∃ (x4_1 : ByteArray) (x6_1 : Int) (x7_1 : Int), v4 = .string x4_1 ∧ v6 = .int .i64 x6_1 ∧ v7 = .int .i64 x7_1 ∧ Hid (i_alfilref04_Write.l1 kq a0 x5_0 x4_1 x6_1 x7_1 = some (r1, r2)) ∧ Hid (kq ≤ k197) ∧ Hid (Blk w' gb189 24 (bv a0)) ∧ Hid (Below w.heap.size w w'))
          case atStart => exact ⟨x4_0, (0 : Int), (0 : Int), (by first | rfl | (simp; done) | (simp [*]; done)), (by first | rfl | (simp; done) | (simp [*]; done)), (by first | rfl | (simp; done) | (simp [*]; done)), H', (hid (by first | omega | (have := HK196.out; omega))), (hid (by exact BKb189.out)), HL⟩
          case round =>
            clear H'
            clear HL BKb189
            obtain ⟨x4_1, x6_1, x7_1, rfl, rfl, rfl, HA, HK199, BKb189, HL⟩ := hrel
            cases gk with
            | zero => exact absurd HA.out (by simp [i_alfilref04_Write.l1])
            | succ k200 =>
              have H := HA.out
              clear HA
              simp only [i_alfilref04_Write.l1] at H
              by_cases c201 : x7_1 < 8
              · rw [if_pos c201] at H
                have c201b0 : decide (x7_1 < 8) = true := decide_eq_true c201
                have hc201 := hid c201
                clear c201
                by_cases c202 : 0 ≤ (wrap64 ((wrap64 (8 * x5_0)) + x7_1))
                · rw [if_pos c202] at H
                  have c202b0 : decide (0 ≤ (wrap64 ((wrap64 (8 * x5_0)) + x7_1))) = true := decide_eq_true c202
                  have hc202 := hid c202
                  clear c202
                  by_cases c203 : (wrap64 ((wrap64 (8 * x5_0)) + x7_1)) < 64
                  · rw [if_pos c203] at H
                    have c203b0 : decide ((wrap64 ((wrap64 (8 * x5_0)) + x7_1)) < 64) = true := decide_eq_true c203
                    have hc203 := hid c203
                    clear c203
                    by_cases c204 : (wrap64 (nt a0 ((wrap64 ((wrap64 (8 * x5_0)) + x7_1)).toNat) 0)) = 0
                    · rw [if_pos c204] at H
                      have c204b0 : ((wrap64 (nt a0 ((wrap64 ((wrap64 (8 * x5_0)) + x7_1)).toNat) 0)) == 0) = true := beq_iff_eq.mpr c204
                      have c204b1 : ((wrap64 (nt a0 ((wrap64 ((wrap64 (8 * x5_0)) + x7_1)).toNat) 0)) != 0) = false := bne_eq_false_iff_eq.mpr c204
                      have hc204 := hid c204
                      clear c204
                      by_cases c205 : (wrap64 (x6_1 + 1)) > 0
                      · rw [if_pos c205] at H
                        have c205b0 : decide (0 < (wrap64 (x6_1 + 1))) = true := decide_eq_true c205
                        have hc205 := hid c205
                        clear c205
                        by_cases c206 : x7_1 = 7
                        · rw [if_pos c206] at H
                          have c206b0 : (x7_1 == 7) = true := beq_iff_eq.mpr c206
                          have c206b1 : (x7_1 != 7) = false := bne_eq_false_iff_eq.mpr c206
                          have hc206 := hid c206
                          clear c206
                          by_cases c207 : 0 ≤ (wrap64 (x6_1 + 1))
                          · rw [if_pos c207] at H
                            have c207b0 : decide (0 ≤ (wrap64 (x6_1 + 1))) = true := decide_eq_true c207
                            have hc207 := hid c207
                            clear c207
                            by_cases c208 : (wrap64 (x6_1 + 1)) ≤ (wrap64 ((wrap64 (x6_1 + 1)) + 1))
                            · rw [if_pos c208] at H
                              have c208b0 : decide ((wrap64 (x6_1 + 1)) ≤ (wrap64 ((wrap64 (x6_1 + 1)) + 1))) = true := decide_eq_true c208
                              have hc208 := hid c208
                              clear c208
                              by_cases c209 : (wrap64 ((wrap64 (x6_1 + 1)) + 1)) ≤ 9
                              · rw [if_pos c209] at H
                                have c209b0 : decide ((wrap64 ((wrap64 (x6_1 + 1)) + 1)) ≤ 9) = true := decide_eq_true c209
                                have hc209 := hid c209
                                clear c209
                                by_cases c210 : x4_1.size + ((⟨#[48, 49, 50, 51, 52, 53, 54, 55, 56]⟩ : ByteArray).extract ((wrap64 (x6_1 + 1)) : Int).toNat ((wrap64 ((wrap64 (x6_1 + 1)) + 1)) : Int).toNat).size ≤ 9223372036854775807
                                · rw [if_pos c210] at H
                                  have hc210 := hid c210
                                  clear c210
                                  by_cases c211 : (x4_1 ++ ((⟨#[48, 49, 50, 51, 52, 53, 54, 55, 56]⟩ : ByteArray).extract ((wrap64 (x6_1 + 1)) : Int).toNat ((wrap64 ((wrap64 (x6_1 + 1)) + 1)) : Int).toNat)).size + (letterB (wrap64 (nt a0 ((wrap64 ((wrap64 (8 * x5_0)) + x7_1)).toNat) 0))).size ≤ 9223372036854775807
                                  · rw [if_pos c211] at H
                                    have hc211 := hid c211
                                    clear c211
                                    have H' := hid H
                                    clear H
                                    have k212 := True.intro
                                    go_wp2_with (first
                                      | ((with_reducible refine gate_d (N := 24) rfl ?_); refine ag_fix (.pointer (some ⟨gb189, (wrap64 ((wrap64 (8 * x5_0)) + x7_1)).toNat, none⟩)) (ex_at 24 (.pointer (some ⟨gb189, 0, none⟩)) (.int .i64 (wrap64 ((wrap64 (8 * x5_0)) + x7_1))) (.pointer (some ⟨gb189, (wrap64 ((wrap64 (8 * x5_0)) + x7_1)).toNat, none⟩)) (fun w_ => (run_atv 22 uT24 sT22.size gb189 0 (wrap64 ((wrap64 (8 * x5_0)) + x7_1)) hc202.out hc203.out w_).trans (by simp)) _ _ rfl rfl rfl) rfl ?_)
                                      | ((with_reducible refine gate_d (N := 25) rfl ?_); refine ag_fix (.int .i8 (nt a0 ((wrap64 ((wrap64 (8 * x5_0)) + x7_1)).toNat) 0)) (ex_get sT22 gb189 ((wrap64 ((wrap64 (8 * x5_0)) + x7_1)).toNat) (.int .i8 (nt a0 ((wrap64 ((wrap64 (8 * x5_0)) + x7_1)).toNat) 0)) ((bv a0)) BKb189.out (av_get 0 (by have h_ : a0.length = 64 := (by first | rfl | (simp only [List.length_set, List.length_replicate, zL_len, List.length_cons, List.length_nil, LN_a0.out]; done) | (simp [zL_len, LN_a0.out]; done)); have h1_ := hc202.out; have h2_ := hc203.out; omega)) _ rfl rfl) rfl ?_)
                                      | ((with_reducible refine gate_d (N := 45) rfl ?_); refine ag_fix (.string ((⟨#[48, 49, 50, 51, 52, 53, 54, 55, 56]⟩ : ByteArray).extract ((wrap64 (x6_1 + 1)) : Int).toNat ((wrap64 ((wrap64 (x6_1 + 1)) + 1)) : Int).toNat)) (ex_cut_lh 9 und_txt (⟨#[48, 49, 50, 51, 52, 53, 54, 55, 56]⟩ : ByteArray) (wrap64 (x6_1 + 1)) (wrap64 ((wrap64 (x6_1 + 1)) + 1)) hc207.out hc208.out hc209.out _ _ _ rfl rfl rfl rfl) rfl ?_)
                                      | ((with_reducible refine gate_d (N := 46) rfl ?_); refine ag_fix (.string (x4_1 ++ ((⟨#[48, 49, 50, 51, 52, 53, 54, 55, 56]⟩ : ByteArray).extract ((wrap64 (x6_1 + 1)) : Int).toNat ((wrap64 ((wrap64 (x6_1 + 1)) + 1)) : Int).toNat))) (ex_cat 9 x4_1 ((⟨#[48, 49, 50, 51, 52, 53, 54, 55, 56]⟩ : ByteArray).extract ((wrap64 (x6_1 + 1)) : Int).toNat ((wrap64 ((wrap64 (x6_1 + 1)) + 1)) : Int).toNat) hc210.out _ _ _ rfl rfl rfl) rfl ?_)
                                      | (go_at_call 65; clear k212; refine (rLetter (wrap64 (nt a0 ((wrap64 ((wrap64 (8 * x5_0)) + x7_1)).toNat) 0)) _).mono ?_; rintro e_ w213 ⟨rfl, hb_⟩; replace BKb189 := hid (BKb189.out.below hb_ BKb189.out.lt); replace HL := hid (HL.out.trans (hb_.mono HL.out.size)); clear hb_)
                                      | ((with_reducible refine gate_d (N := 50) rfl ?_); refine ag_fix (.string ((x4_1 ++ ((⟨#[48, 49, 50, 51, 52, 53, 54, 55, 56]⟩ : ByteArray).extract ((wrap64 (x6_1 + 1)) : Int).toNat ((wrap64 ((wrap64 (x6_1 + 1)) + 1)) : Int).toNat)) ++ (letterB (wrap64 (nt a0 ((wrap64 ((wrap64 (8 * x5_0)) + x7_1)).toNat) 0))))) (ex_cat 9 (x4_1 ++ ((⟨#[48, 49, 50, 51, 52, 53, 54, 55, 56]⟩ : ByteArray).extract ((wrap64 (x6_1 + 1)) : Int).toNat ((wrap64 ((wrap64 (x6_1 + 1)) + 1)) : Int).toNat)) (letterB (wrap64 (nt a0 ((wrap64 ((wrap64 (8 * x5_0)) + x7_1)).toNat) 0))) hc211.out _ _ _ rfl rfl rfl) rfl ?_))
                                    (try simp only [Act.put, List.setIfInBounds_toArray, List.set_cons_zero, List.set_cons_succ])
                                    go_roundg k200
                                    case measure => have := HK196.out; have := HK199.out; omega
                                    case rel => exact ⟨(x4_1 ++ ((⟨#[48, 49, 50, 51, 52, 53, 54, 55, 56]⟩ : ByteArray).extract ((wrap64 (x6_1 + 1)) : Int).toNat ((wrap64 ((wrap64 (x6_1 + 1)) + 1)) : Int).toNat)) ++ (letterB (wrap64 (nt a0 ((wrap64 ((wrap64 (8 * x5_0)) + x7_1)).toNat) 0))), (0 : Int), wrap64 (x7_1 + 1), (by first | rfl | (simp; done) | (simp [*]; done)), (by first | rfl | (simp; done) | (simp [*]; done)), (by first | rfl | (simp; done) | (simp [*]; done)), H', (hid (by first | omega | (have := HK196.out; have := HK199.out; omega))), (hid (by exact BKb189.out)), HL⟩
                                  · rw [if_neg c211] at H
                                    exact absurd H (by simp)
                                · rw [if_neg c210] at H
                                  exact absurd H (by simp)
                              · rw [if_neg c209] at H
                                exact absurd H (by simp)
                            · rw [if_neg c208] at H
                              exact absurd H (by simp)
                          · rw [if_neg c207] at H
                            exact absurd H (by simp)
                        · rw [if_neg c206] at H
                          have c206b0 : (x7_1 == 7) = false := beq_eq_false_iff_ne.mpr c206
                          have c206b1 : (x7_1 != 7) = true := bne_iff_ne.mpr c206
                          have hc206 := hid c206
                          clear c206
                          by_cases c214 : x4_1.size + (letterB (wrap64 (nt a0 ((wrap64 ((wrap64 (8 * x5_0)) + x7_1)).toNat) 0))).size ≤ 9223372036854775807
                          · rw [if_pos c214] at H
                            have hc214 := hid c214
                            clear c214
                            have H' := hid H
                            clear H
                            have k215 := True.intro
                            go_wp2_with (first
                              | ((with_reducible refine gate_d (N := 24) rfl ?_); refine ag_fix (.pointer (some ⟨gb189, (wrap64 ((wrap64 (8 * x5_0)) + x7_1)).toNat, none⟩)) (ex_at 24 (.pointer (some ⟨gb189, 0, none⟩)) (.int .i64 (wrap64 ((wrap64 (8 * x5_0)) + x7_1))) (.pointer (some ⟨gb189, (wrap64 ((wrap64 (8 * x5_0)) + x7_1)).toNat, none⟩)) (fun w_ => (run_atv 22 uT24 sT22.size gb189 0 (wrap64 ((wrap64 (8 * x5_0)) + x7_1)) hc202.out hc203.out w_).trans (by simp)) _ _ rfl rfl rfl) rfl ?_)
                              | ((with_reducible refine gate_d (N := 25) rfl ?_); refine ag_fix (.int .i8 (nt a0 ((wrap64 ((wrap64 (8 * x5_0)) + x7_1)).toNat) 0)) (ex_get sT22 gb189 ((wrap64 ((wrap64 (8 * x5_0)) + x7_1)).toNat) (.int .i8 (nt a0 ((wrap64 ((wrap64 (8 * x5_0)) + x7_1)).toNat) 0)) ((bv a0)) BKb189.out (av_get 0 (by have h_ : a0.length = 64 := (by first | rfl | (simp only [List.length_set, List.length_replicate, zL_len, List.length_cons, List.length_nil, LN_a0.out]; done) | (simp [zL_len, LN_a0.out]; done)); have h1_ := hc202.out; have h2_ := hc203.out; omega)) _ rfl rfl) rfl ?_)
                              | (go_at_call 65; clear k215; refine (rLetter (wrap64 (nt a0 ((wrap64 ((wrap64 (8 * x5_0)) + x7_1)).toNat) 0)) _).mono ?_; rintro e_ w216 ⟨rfl, hb_⟩; replace BKb189 := hid (BKb189.out.below hb_ BKb189.out.lt); replace HL := hid (HL.out.trans (hb_.mono HL.out.size)); clear hb_)
                              | ((with_reducible refine gate_d (N := 50) rfl ?_); refine ag_fix (.string (x4_1 ++ (letterB (wrap64 (nt a0 ((wrap64 ((wrap64 (8 * x5_0)) + x7_1)).toNat) 0))))) (ex_cat 9 x4_1 (letterB (wrap64 (nt a0 ((wrap64 ((wrap64 (8 * x5_0)) + x7_1)).toNat) 0))) hc214.out _ _ _ rfl rfl rfl) rfl ?_))
                            (try simp only [Act.put, List.setIfInBounds_toArray, List.set_cons_zero, List.set_cons_succ])
                            go_roundg k200
                            case measure => have := HK196.out; have := HK199.out; omega
                            case rel => exact ⟨x4_1 ++ (letterB (wrap64 (nt a0 ((wrap64 ((wrap64 (8 * x5_0)) + x7_1)).toNat) 0))), wrap64 (x6_1 + 1), wrap64 (x7_1 + 1), (by first | rfl | (simp; done) | (simp [*]; done)), (by first | rfl | (simp; done) | (simp [*]; done)), (by first | rfl | (simp; done) | (simp [*]; done)), H', (hid (by first | omega | (have := HK196.out; have := HK199.out; omega))), (hid (by exact BKb189.out)), HL⟩
                          · rw [if_neg c214] at H
                            exact absurd H (by simp)
                      · rw [if_neg c205] at H
                        have c205b0 : decide (0 < (wrap64 (x6_1 + 1))) = false := decide_eq_false c205
                        have hc205 := hid c205
                        clear c205
                        by_cases c217 : x4_1.size + (letterB (wrap64 (nt a0 ((wrap64 ((wrap64 (8 * x5_0)) + x7_1)).toNat) 0))).size ≤ 9223372036854775807
                        · rw [if_pos c217] at H
                          have hc217 := hid c217
                          clear c217
                          have H' := hid H
                          clear H
                          have k218 := True.intro
                          go_wp2_with (first
                            | ((with_reducible refine gate_d (N := 24) rfl ?_); refine ag_fix (.pointer (some ⟨gb189, (wrap64 ((wrap64 (8 * x5_0)) + x7_1)).toNat, none⟩)) (ex_at 24 (.pointer (some ⟨gb189, 0, none⟩)) (.int .i64 (wrap64 ((wrap64 (8 * x5_0)) + x7_1))) (.pointer (some ⟨gb189, (wrap64 ((wrap64 (8 * x5_0)) + x7_1)).toNat, none⟩)) (fun w_ => (run_atv 22 uT24 sT22.size gb189 0 (wrap64 ((wrap64 (8 * x5_0)) + x7_1)) hc202.out hc203.out w_).trans (by simp)) _ _ rfl rfl rfl) rfl ?_)
                            | ((with_reducible refine gate_d (N := 25) rfl ?_); refine ag_fix (.int .i8 (nt a0 ((wrap64 ((wrap64 (8 * x5_0)) + x7_1)).toNat) 0)) (ex_get sT22 gb189 ((wrap64 ((wrap64 (8 * x5_0)) + x7_1)).toNat) (.int .i8 (nt a0 ((wrap64 ((wrap64 (8 * x5_0)) + x7_1)).toNat) 0)) ((bv a0)) BKb189.out (av_get 0 (by have h_ : a0.length = 64 := (by first | rfl | (simp only [List.length_set, List.length_replicate, zL_len, List.length_cons, List.length_nil, LN_a0.out]; done) | (simp [zL_len, LN_a0.out]; done)); have h1_ := hc202.out; have h2_ := hc203.out; omega)) _ rfl rfl) rfl ?_)
                            | (go_at_call 65; clear k218; refine (rLetter (wrap64 (nt a0 ((wrap64 ((wrap64 (8 * x5_0)) + x7_1)).toNat) 0)) _).mono ?_; rintro e_ w219 ⟨rfl, hb_⟩; replace BKb189 := hid (BKb189.out.below hb_ BKb189.out.lt); replace HL := hid (HL.out.trans (hb_.mono HL.out.size)); clear hb_)
                            | ((with_reducible refine gate_d (N := 50) rfl ?_); refine ag_fix (.string (x4_1 ++ (letterB (wrap64 (nt a0 ((wrap64 ((wrap64 (8 * x5_0)) + x7_1)).toNat) 0))))) (ex_cat 9 x4_1 (letterB (wrap64 (nt a0 ((wrap64 ((wrap64 (8 * x5_0)) + x7_1)).toNat) 0))) hc217.out _ _ _ rfl rfl rfl) rfl ?_))
                          (try simp only [Act.put, List.setIfInBounds_toArray, List.set_cons_zero, List.set_cons_succ])
                          go_roundg k200
                          case measure => have := HK196.out; have := HK199.out; omega
                          case rel => exact ⟨x4_1 ++ (letterB (wrap64 (nt a0 ((wrap64 ((wrap64 (8 * x5_0)) + x7_1)).toNat) 0))), wrap64 (x6_1 + 1), wrap64 (x7_1 + 1), (by first | rfl | (simp; done) | (simp [*]; done)), (by first | rfl | (simp; done) | (simp [*]; done)), (by first | rfl | (simp; done) | (simp [*]; done)), H', (hid (by first | omega | (have := HK196.out; have := HK199.out; omega))), (hid (by exact BKb189.out)), HL⟩
                        · rw [if_neg c217] at H
                          exact absurd H (by simp)
                    · rw [if_neg c204] at H
                      have c204b0 : ((wrap64 (nt a0 ((wrap64 ((wrap64 (8 * x5_0)) + x7_1)).toNat) 0)) == 0) = false := beq_eq_false_iff_ne.mpr c204
                      have c204b1 : ((wrap64 (nt a0 ((wrap64 ((wrap64 (8 * x5_0)) + x7_1)).toNat) 0)) != 0) = true := bne_iff_ne.mpr c204
                      have hc204 := hid c204
                      clear c204
                      by_cases c220 : x6_1 > 0
                      · rw [if_pos c220] at H
                        have c220b0 : decide (0 < x6_1) = true := decide_eq_true c220
                        have hc220 := hid c220
                        clear c220
                        by_cases c221 : 0 ≤ x6_1
                        · rw [if_pos c221] at H
                          have c221b0 : decide (0 ≤ x6_1) = true := decide_eq_true c221
                          have hc221 := hid c221
                          clear c221
                          by_cases c222 : x6_1 ≤ (wrap64 (x6_1 + 1))
                          · rw [if_pos c222] at H
                            have c222b0 : decide (x6_1 ≤ (wrap64 (x6_1 + 1))) = true := decide_eq_true c222
                            have hc222 := hid c222
                            clear c222
                            by_cases c223 : (wrap64 (x6_1 + 1)) ≤ 9
                            · rw [if_pos c223] at H
                              have c223b0 : decide ((wrap64 (x6_1 + 1)) ≤ 9) = true := decide_eq_true c223
                              have hc223 := hid c223
                              clear c223
                              by_cases c224 : x4_1.size + ((⟨#[48, 49, 50, 51, 52, 53, 54, 55, 56]⟩ : ByteArray).extract (x6_1 : Int).toNat ((wrap64 (x6_1 + 1)) : Int).toNat).size ≤ 9223372036854775807
                              · rw [if_pos c224] at H
                                have hc224 := hid c224
                                clear c224
                                by_cases c225 : (x4_1 ++ ((⟨#[48, 49, 50, 51, 52, 53, 54, 55, 56]⟩ : ByteArray).extract (x6_1 : Int).toNat ((wrap64 (x6_1 + 1)) : Int).toNat)).size + (letterB (wrap64 (nt a0 ((wrap64 ((wrap64 (8 * x5_0)) + x7_1)).toNat) 0))).size ≤ 9223372036854775807
                                · rw [if_pos c225] at H
                                  have hc225 := hid c225
                                  clear c225
                                  have H' := hid H
                                  clear H
                                  have k226 := True.intro
                                  go_wp2_with (first
                                    | ((with_reducible refine gate_d (N := 24) rfl ?_); refine ag_fix (.pointer (some ⟨gb189, (wrap64 ((wrap64 (8 * x5_0)) + x7_1)).toNat, none⟩)) (ex_at 24 (.pointer (some ⟨gb189, 0, none⟩)) (.int .i64 (wrap64 ((wrap64 (8 * x5_0)) + x7_1))) (.pointer (some ⟨gb189, (wrap64 ((wrap64 (8 * x5_0)) + x7_1)).toNat, none⟩)) (fun w_ => (run_atv 22 uT24 sT22.size gb189 0 (wrap64 ((wrap64 (8 * x5_0)) + x7_1)) hc202.out hc203.out w_).trans (by simp)) _ _ rfl rfl rfl) rfl ?_)
                                    | ((with_reducible refine gate_d (N := 25) rfl ?_); refine ag_fix (.int .i8 (nt a0 ((wrap64 ((wrap64 (8 * x5_0)) + x7_1)).toNat) 0)) (ex_get sT22 gb189 ((wrap64 ((wrap64 (8 * x5_0)) + x7_1)).toNat) (.int .i8 (nt a0 ((wrap64 ((wrap64 (8 * x5_0)) + x7_1)).toNat) 0)) ((bv a0)) BKb189.out (av_get 0 (by have h_ : a0.length = 64 := (by first | rfl | (simp only [List.length_set, List.length_replicate, zL_len, List.length_cons, List.length_nil, LN_a0.out]; done) | (simp [zL_len, LN_a0.out]; done)); have h1_ := hc202.out; have h2_ := hc203.out; omega)) _ rfl rfl) rfl ?_)
                                    | ((with_reducible refine gate_d (N := 45) rfl ?_); refine ag_fix (.string ((⟨#[48, 49, 50, 51, 52, 53, 54, 55, 56]⟩ : ByteArray).extract (x6_1 : Int).toNat ((wrap64 (x6_1 + 1)) : Int).toNat)) (ex_cut_lh 9 und_txt (⟨#[48, 49, 50, 51, 52, 53, 54, 55, 56]⟩ : ByteArray) x6_1 (wrap64 (x6_1 + 1)) hc221.out hc222.out hc223.out _ _ _ rfl rfl rfl rfl) rfl ?_)
                                    | ((with_reducible refine gate_d (N := 46) rfl ?_); refine ag_fix (.string (x4_1 ++ ((⟨#[48, 49, 50, 51, 52, 53, 54, 55, 56]⟩ : ByteArray).extract (x6_1 : Int).toNat ((wrap64 (x6_1 + 1)) : Int).toNat))) (ex_cat 9 x4_1 ((⟨#[48, 49, 50, 51, 52, 53, 54, 55, 56]⟩ : ByteArray).extract (x6_1 : Int).toNat ((wrap64 (x6_1 + 1)) : Int).toNat) hc224.out _ _ _ rfl rfl rfl) rfl ?_)
                                    | (go_at_call 65; clear k226; refine (rLetter (wrap64 (nt a0 ((wrap64 ((wrap64 (8 * x5_0)) + x7_1)).toNat) 0)) _).mono ?_; rintro e_ w227 ⟨rfl, hb_⟩; replace BKb189 := hid (BKb189.out.below hb_ BKb189.out.lt); replace HL := hid (HL.out.trans (hb_.mono HL.out.size)); clear hb_)
                                    | ((with_reducible refine gate_d (N := 50) rfl ?_); refine ag_fix (.string ((x4_1 ++ ((⟨#[48, 49, 50, 51, 52, 53, 54, 55, 56]⟩ : ByteArray).extract (x6_1 : Int).toNat ((wrap64 (x6_1 + 1)) : Int).toNat)) ++ (letterB (wrap64 (nt a0 ((wrap64 ((wrap64 (8 * x5_0)) + x7_1)).toNat) 0))))) (ex_cat 9 (x4_1 ++ ((⟨#[48, 49, 50, 51, 52, 53, 54, 55, 56]⟩ : ByteArray).extract (x6_1 : Int).toNat ((wrap64 (x6_1 + 1)) : Int).toNat)) (letterB (wrap64 (nt a0 ((wrap64 ((wrap64 (8 * x5_0)) + x7_1)).toNat) 0))) hc225.out _ _ _ rfl rfl rfl) rfl ?_))
                                  (try simp only [Act.put, List.setIfInBounds_toArray, List.set_cons_zero, List.set_cons_succ])
                                  go_roundg k200
                                  case measure => have := HK196.out; have := HK199.out; omega
                                  case rel => exact ⟨(x4_1 ++ ((⟨#[48, 49, 50, 51, 52, 53, 54, 55, 56]⟩ : ByteArray).extract (x6_1 : Int).toNat ((wrap64 (x6_1 + 1)) : Int).toNat)) ++ (letterB (wrap64 (nt a0 ((wrap64 ((wrap64 (8 * x5_0)) + x7_1)).toNat) 0))), (0 : Int), wrap64 (x7_1 + 1), (by first | rfl | (simp; done) | (simp [*]; done)), (by first | rfl | (simp; done) | (simp [*]; done)), (by first | rfl | (simp; done) | (simp [*]; done)), H', (hid (by first | omega | (have := HK196.out; have := HK199.out; omega))), (hid (by exact BKb189.out)), HL⟩
                                · rw [if_neg c225] at H
                                  exact absurd H (by simp)
                              · rw [if_neg c224] at H
                                exact absurd H (by simp)
                            · rw [if_neg c223] at H
                              exact absurd H (by simp)
                          · rw [if_neg c222] at H
                            exact absurd H (by simp)
                        · rw [if_neg c221] at H
                          exact absurd H (by simp)
                      · rw [if_neg c220] at H
                        have c220b0 : decide (0 < x6_1) = false := decide_eq_false c220
                        have hc220 := hid c220
                        clear c220
                        by_cases c228 : x4_1.size + (letterB (wrap64 (nt a0 ((wrap64 ((wrap64 (8 * x5_0)) + x7_1)).toNat) 0))).size ≤ 9223372036854775807
                        · rw [if_pos c228] at H
                          have hc228 := hid c228
                          clear c228
                          have H' := hid H
                          clear H
                          have k229 := True.intro
                          go_wp2_with (first
                            | ((with_reducible refine gate_d (N := 24) rfl ?_); refine ag_fix (.pointer (some ⟨gb189, (wrap64 ((wrap64 (8 * x5_0)) + x7_1)).toNat, none⟩)) (ex_at 24 (.pointer (some ⟨gb189, 0, none⟩)) (.int .i64 (wrap64 ((wrap64 (8 * x5_0)) + x7_1))) (.pointer (some ⟨gb189, (wrap64 ((wrap64 (8 * x5_0)) + x7_1)).toNat, none⟩)) (fun w_ => (run_atv 22 uT24 sT22.size gb189 0 (wrap64 ((wrap64 (8 * x5_0)) + x7_1)) hc202.out hc203.out w_).trans (by simp)) _ _ rfl rfl rfl) rfl ?_)
                            | ((with_reducible refine gate_d (N := 25) rfl ?_); refine ag_fix (.int .i8 (nt a0 ((wrap64 ((wrap64 (8 * x5_0)) + x7_1)).toNat) 0)) (ex_get sT22 gb189 ((wrap64 ((wrap64 (8 * x5_0)) + x7_1)).toNat) (.int .i8 (nt a0 ((wrap64 ((wrap64 (8 * x5_0)) + x7_1)).toNat) 0)) ((bv a0)) BKb189.out (av_get 0 (by have h_ : a0.length = 64 := (by first | rfl | (simp only [List.length_set, List.length_replicate, zL_len, List.length_cons, List.length_nil, LN_a0.out]; done) | (simp [zL_len, LN_a0.out]; done)); have h1_ := hc202.out; have h2_ := hc203.out; omega)) _ rfl rfl) rfl ?_)
                            | (go_at_call 65; clear k229; refine (rLetter (wrap64 (nt a0 ((wrap64 ((wrap64 (8 * x5_0)) + x7_1)).toNat) 0)) _).mono ?_; rintro e_ w230 ⟨rfl, hb_⟩; replace BKb189 := hid (BKb189.out.below hb_ BKb189.out.lt); replace HL := hid (HL.out.trans (hb_.mono HL.out.size)); clear hb_)
                            | ((with_reducible refine gate_d (N := 50) rfl ?_); refine ag_fix (.string (x4_1 ++ (letterB (wrap64 (nt a0 ((wrap64 ((wrap64 (8 * x5_0)) + x7_1)).toNat) 0))))) (ex_cat 9 x4_1 (letterB (wrap64 (nt a0 ((wrap64 ((wrap64 (8 * x5_0)) + x7_1)).toNat) 0))) hc228.out _ _ _ rfl rfl rfl) rfl ?_))
                          (try simp only [Act.put, List.setIfInBounds_toArray, List.set_cons_zero, List.set_cons_succ])
                          go_roundg k200
                          case measure => have := HK196.out; have := HK199.out; omega
                          case rel => exact ⟨x4_1 ++ (letterB (wrap64 (nt a0 ((wrap64 ((wrap64 (8 * x5_0)) + x7_1)).toNat) 0))), x6_1, wrap64 (x7_1 + 1), (by first | rfl | (simp; done) | (simp [*]; done)), (by first | rfl | (simp; done) | (simp [*]; done)), (by first | rfl | (simp; done) | (simp [*]; done)), H', (hid (by first | omega | (have := HK196.out; have := HK199.out; omega))), (hid (by exact BKb189.out)), HL⟩
                        · rw [if_neg c228] at H
                          exact absurd H (by simp)
                  · rw [if_neg c203] at H
                    exact absurd H (by simp)
                · rw [if_neg c202] at H
                  exact absurd H (by simp)
              · rw [if_neg c201] at H
                have c201b0 : decide (x7_1 < 8) = false := decide_eq_false c201
                have hc201 := hid c201
                clear c201
                by_cases c231 : x5_0 > 0
                · rw [if_pos c231] at H
                  have c231b0 : decide (0 < x5_0) = true := decide_eq_true c231
                  have hc231 := hid c231
                  clear c231
                  by_cases c232 : x4_1.size + 1 ≤ 9223372036854775807
                  · rw [if_pos c232] at H
                    have hc232 := hid c232
                    clear c232
                    have H' := hid H
                    clear H
                    go_wp2_with (first
                      | ((with_reducible refine gate_d (N := 54) rfl ?_); refine ag_fix (.string (x4_1 ++ (⟨#[47]⟩ : ByteArray))) (ex_cat 9 x4_1 (⟨#[47]⟩ : ByteArray) hc232.out _ _ _ rfl rfl rfl) rfl ?_))
                    (try simp only [Act.put, List.setIfInBounds_toArray, List.set_cons_zero, List.set_cons_succ])
                    go_roundg k200
                    case measure => have := HK196.out; have := HK199.out; omega
                    case rel => exact ⟨x4_1 ++ (⟨#[47]⟩ : ByteArray), wrap64 (x5_0 - 1), (by first | rfl | (simp; done) | (simp [*]; done)), (by first | rfl | (simp; done) | (simp [*]; done)), H', (hid (by first | omega | (have := HK196.out; have := HK199.out; omega))), (hid (by exact BKb189.out)), HL⟩
                  · rw [if_neg c232] at H
                    exact absurd H (by simp)
                · rw [if_neg c231] at H
                  have c231b0 : decide (0 < x5_0) = false := decide_eq_false c231
                  have hc231 := hid c231
                  clear c231
                  have H' := hid H
                  clear H
                  go_wp2_with fail
                  (try simp only [Act.put, List.setIfInBounds_toArray, List.set_cons_zero, List.set_cons_succ])
                  go_roundg k200
                  case measure => have := HK196.out; have := HK199.out; omega
                  case rel => exact ⟨x4_1, wrap64 (x5_0 - 1), (by first | rfl | (simp; done) | (simp [*]; done)), (by first | rfl | (simp; done) | (simp [*]; done)), H', (hid (by first | omega | (have := HK196.out; have := HK199.out; omega))), (hid (by exact BKb189.out)), HL⟩
        · rw [if_neg c198] at H
          have c198b0 : decide (0 ≤ x5_0) = false := decide_eq_false c198
          have hc198 := hid c198
          clear c198
          simp only [Option.some.injEq, Prod.mk.injEq] at H
          obtain ⟨rfl, rfl⟩ := H
          go_wp2_with fail
          (try simp only [Act.put, List.setIfInBounds_toArray, List.set_cons_zero, List.set_cons_succ])
          go_ret2
          exact ⟨by first | rfl | (simp; done) | (simp [*]; done), HL.out⟩
  | false =>
    rw [if_neg (show ¬ (false = true) by decide)] at H
    simp only [Option.some.injEq, Prod.mk.injEq] at H
    obtain ⟨rfl, rfl⟩ := H
    go_enter Try.func40, Try.ntmps40
    have k234 := True.intro
    go_wp2_with (first
      | ((with_reducible refine gate_d (N := 1) rfl ?_); obtain ⟨gb189, hgb189⟩ : ∃ g_, w.heap.size = g_ := ⟨_, rfl⟩; refine ag_box (bv a0) gb189 hgb189 rfl _ rfl rfl ?_; intro w233 hb_ hB_ hs_; have GEb189 : Hid (w.heap.size ≤ gb189) := hid (by have := HL.out.size; omega); replace HL := hid (HL.out.trans (hb_.mono GEb189.out)); have BKb189 := hid hB_; clear hb_ hB_ hs_ hgb189)
      | ((with_reducible refine gate_d (N := 9) rfl ?_); refine ag_fix (.agg (bv a0)) (ex_load boardT gb189 0 (bv a0) (bv a0) BKb189.out (av_le (by first | rfl | (simp only [List.length_set, List.length_replicate, zL_len, List.length_cons, List.length_nil, LN_a0.out]; done) | (simp [zL_len, LN_a0.out]; done))) (av_ex (by first | rfl | (simp only [List.length_set, List.length_replicate, zL_len, List.length_cons, List.length_nil, LN_a0.out]; done) | (simp [zL_len, LN_a0.out]; done))) _ rfl rfl) rfl ?_)
      | (go_at_call 20; clear k234; refine (i_alfilref03_Right.calls k a0 (by first | rfl | (simp only [List.length_set, List.length_replicate, zL_len, List.length_cons, List.length_nil, LN_a0.out]; done) | (simp [zL_len, LN_a0.out]; done)) false _ A191.out).mono ?_; rintro e_ w235 ⟨rfl, hb_⟩; replace BKb189 := hid (BKb189.out.below hb_ BKb189.out.lt); replace HL := hid (HL.out.trans (hb_.mono HL.out.size)); clear hb_))
    (try simp only [Act.put, List.setIfInBounds_toArray, List.set_cons_zero, List.set_cons_succ])
    go_ret2
    exact ⟨by first | rfl | (simp; done) | (simp [*]; done), HL.out⟩
end Go.Proofs.Ytpgdcpkggmkooaa
