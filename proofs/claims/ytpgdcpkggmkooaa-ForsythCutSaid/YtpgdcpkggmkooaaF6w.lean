/- The walks of the reference of boards as rows of letters. -/
import Derived.Test.YtpgdcpkggmkooaaProg
import Derived.Test.YtpgdcpkggmkooaaFw
import Derived.Test.YtpgdcpkggmkooaaMnL
namespace Go.Proofs.Ytpgdcpkggmkooaa
open Go.RowKit
set_option linter.unusedVariables false
set_option linter.unusedSimpArgs false
theorem aT68_agg (w : World) : (isAgg 68).run Try.prog w = .ok true w := by kernel_rfl
theorem aT68_size (w : World) : (sizeOf 68).run Try.prog w = .ok 4 w := by kernel_rfl
theorem aT68_zero (w : World) : (zeroValue 68).run Try.prog w = .ok (.agg #[.slice none 0 0, .int .i64 0, .int .i64 0, .bool false]) w := by kernel_rfl
theorem aT68 : AggT Try.prog 68 4 #[.slice none 0 0, .int .i64 0, .int .i64 0, .bool false] := ⟨aT68_agg, aT68_size, aT68_zero, by first | rfl | decide⟩
theorem fa68_2_0 (g : Nat) (w : World) : (Instr.fieldAt 68 (.pointer (some ⟨g, 0, none⟩)) 2).run Try.prog w = .ok (.pointer (some ⟨g, 2, none⟩)) w := by kernel_rfl
theorem fa68_1_0 (g : Nat) (w : World) : (Instr.fieldAt 68 (.pointer (some ⟨g, 0, none⟩)) 1).run Try.prog w = .ok (.pointer (some ⟨g, 1, none⟩)) w := by kernel_rfl
theorem fa68_0_0 (g : Nat) (w : World) : (Instr.fieldAt 68 (.pointer (some ⟨g, 0, none⟩)) 0).run Try.prog w = .ok (.pointer (some ⟨g, 0, none⟩)) w := by kernel_rfl
theorem sT43 : ScT Try.prog 43 := ⟨fun w => by kernel_rfl, fun w => by kernel_rfl⟩
theorem eT43_info : (Try.prog.info? 3).map (fun i => (i.zero, i.size, i.bytes)) = some (some (.int .i64 0), 1, 8) := by kernel_rfl
theorem eT43 : ElemT Try.prog 43 3 8 := ⟨by kernel_rfl, by
  obtain ⟨i, h1, h2, h3, h4⟩ := info_parts eT43_info
  exact ⟨i, _, h1, h2, h3, h4, rfl⟩⟩
theorem fv68_3 (x0_ x1_ x2_ x3_ : Value) (w : World) : (Instr.field 68 (.agg #[x0_, x1_, x2_, x3_]) 3).run Try.prog w = .ok (x3_) w := by kernel_rfl
theorem us43 : Try.prog.underlying 43 = some (.slice 3) := by kernel_rfl
/-! i_alfilref04_Says: function 62 -/
mutual
def i_alfilref04_Says.l0 : Nat → ByteArray → Int → Int → List Int → Int → Int → Option ((List Int) × Int × Int × Bool)
  | 0, _, _, _, _, _, _ => none
  | k + 1, a0, a1, x6_0, yb86_0_0, yb86_1_0, yb86_2_0 => if x6_0 < a1 then (if 0 ≤ x6_0 then (if x6_0 < (a0.size : Int) then (if (bt a0 x6_0.toNat) = 47 then (if yb86_2_0 = 8 then (if yb86_1_0 = 7 then (some (([] : List Int), 0, 0, false)) else (i_alfilref04_Says.l0 k a0 a1 (wrap64 (x6_0 + 1)) yb86_0_0 (wrap64 (yb86_1_0 + 1)) 0)) else (some (([] : List Int), 0, 0, false))) else (if (bt a0 x6_0.toNat) ≥ 49 then (if (bt a0 x6_0.toNat) ≤ 56 then (if (wrap64 (yb86_2_0 + (((bt a0 x6_0.toNat) - 48) % 256))) > 8 then (some (([] : List Int), 0, 0, false)) else (i_alfilref04_Says.l1 k a0 a1 x6_0 yb86_1_0 yb86_2_0 0 yb86_0_0)) else (if x6_0 ≤ (wrap64 (x6_0 + 1)) then (if (wrap64 (x6_0 + 1)) ≤ (a0.size : Int) then (if (ofZ (a0.extract (x6_0 : Int).toNat ((wrap64 (x6_0 + 1)) : Int).toNat)) = 0 then (some (([] : List Int), 0, 0, false)) else (if (wrap64 (yb86_2_0 + 1)) > 8 then (some (([] : List Int), 0, 0, false)) else (i_alfilref04_Says.l2 k a0 a1 x6_0 yb86_1_0 yb86_2_0 0 yb86_0_0))) else (none)) else (none))) else (if x6_0 ≤ (wrap64 (x6_0 + 1)) then (if (wrap64 (x6_0 + 1)) ≤ (a0.size : Int) then (if (ofZ (a0.extract (x6_0 : Int).toNat ((wrap64 (x6_0 + 1)) : Int).toNat)) = 0 then (some (([] : List Int), 0, 0, false)) else (if (wrap64 (yb86_2_0 + 1)) > 8 then (some (([] : List Int), 0, 0, false)) else (i_alfilref04_Says.l3 k a0 a1 x6_0 yb86_1_0 yb86_2_0 0 yb86_0_0))) else (none)) else (none)))) else (none)) else (none)) else (some (yb86_0_0, yb86_1_0, yb86_2_0, true))
def i_alfilref04_Says.l1 : Nat → ByteArray → Int → Int → Int → Int → Int → List Int → Option ((List Int) × Int × Int × Bool)
  | 0, _, _, _, _, _, _, _ => none
  | k + 1, a0, a1, x6_0, yb86_1_0, yb86_2_0, x10_1, yb86_0_1 => if x10_1 < (((bt a0 x6_0.toNat) - 48) % 256) then (if yb86_0_1.length < 17592186044416 then (i_alfilref04_Says.l1 k a0 a1 x6_0 yb86_1_0 yb86_2_0 (wrap64 (x10_1 + 1)) (yb86_0_1 ++ [0])) else (none)) else (i_alfilref04_Says.l0 k a0 a1 (wrap64 (x6_0 + 1)) yb86_0_1 yb86_1_0 (wrap64 (yb86_2_0 + (((bt a0 x6_0.toNat) - 48) % 256))))
def i_alfilref04_Says.l2 : Nat → ByteArray → Int → Int → Int → Int → Int → List Int → Option ((List Int) × Int × Int × Bool)
  | 0, _, _, _, _, _, _, _ => none
  | k + 1, a0, a1, x6_0, yb86_1_0, yb86_2_0, x10_2, yb86_0_2 => if x10_2 < 1 then (if yb86_0_2.length < 17592186044416 then (i_alfilref04_Says.l2 k a0 a1 x6_0 yb86_1_0 yb86_2_0 (wrap64 (x10_2 + 1)) (yb86_0_2 ++ [ofZ (a0.extract (x6_0 : Int).toNat ((wrap64 (x6_0 + 1)) : Int).toNat)])) else (none)) else (i_alfilref04_Says.l0 k a0 a1 (wrap64 (x6_0 + 1)) yb86_0_2 yb86_1_0 (wrap64 (yb86_2_0 + 1)))
def i_alfilref04_Says.l3 : Nat → ByteArray → Int → Int → Int → Int → Int → List Int → Option ((List Int) × Int × Int × Bool)
  | 0, _, _, _, _, _, _, _ => none
  | k + 1, a0, a1, x6_0, yb86_1_0, yb86_2_0, x10_3, yb86_0_3 => if x10_3 < 1 then (if yb86_0_3.length < 17592186044416 then (i_alfilref04_Says.l3 k a0 a1 x6_0 yb86_1_0 yb86_2_0 (wrap64 (x10_3 + 1)) (yb86_0_3 ++ [ofZ (a0.extract (x6_0 : Int).toNat ((wrap64 (x6_0 + 1)) : Int).toNat)])) else (none)) else (i_alfilref04_Says.l0 k a0 a1 (wrap64 (x6_0 + 1)) yb86_0_3 yb86_1_0 (wrap64 (yb86_2_0 + 1)))
end
def i_alfilref04_Says.f (k : Nat) (a0 : ByteArray) (a1 : Int) : Option ((List Int) × Int × Int × Bool) := i_alfilref04_Says.l0 k a0 a1 0 ([] : List Int) 0 0
def i_alfilref04_Says.post (r1 : List Int) (r2 : Int) (r3 : Int) (r4 : Bool) (w : World) (e : Ending) (w' : World) : Prop := ∃ (u_r1 : Value), e = .returned (.agg #[u_r1, .int .i64 r2, .int .i64 r3, .bool r4]) ∧ Own w' w.heap.size 3 u_r1 (r1.map (Value.int .i64)) ∧ Below w.heap.size w w'
set_option maxHeartbeats 40000000 in
set_option maxRecDepth 100000 in
theorem i_alfilref04_Says.calls (k : Nat) (a0 : ByteArray) (a1 : Int) (r1 : List Int) (r2 : Int) (r3 : Int) (r4 : Bool) (w : World) (h : i_alfilref04_Says.f k a0 a1 = some (r1, r2, r3, r4)) :
    Calls Try.prog 62 #[.string a0, .int .i64 a1] w (i_alfilref04_Says.post r1 r2 r3 r4 w) := by
  have HL := hid (Below.refl w.heap.size w)
  have H : (i_alfilref04_Says.l0 k a0 a1 0 ([] : List Int) 0 0) = some (r1, r2, r3, r4) := h
  clear h
  have H' := hid H
  clear H
  go_enter Try.func62, Try.ntmps62
  go_wp2_with (first
    | ((with_reducible refine gate_d (N := 4) rfl ?_); obtain ⟨gb85, hgb85⟩ : ∃ g_, w.heap.size = g_ := ⟨_, rfl⟩; refine ag_alloc aT68 gb85 hgb85 rfl rfl ?_; intro w111 hb_ hB_ hs_; have GEb85 : Hid (w.heap.size ≤ gb85) := hid (by have := HL.out.size; omega); replace HL := hid (HL.out.trans (hb_.mono GEb85.out)); have BKb85 := hid hB_; clear hb_ hB_ hs_ hgb85)
    | ((with_reducible refine gate_d (N := 11) rfl ?_); refine ag_build (.agg #[.slice none 0 0, .int .i64 0, .int .i64 0, .bool true]) _ rfl rfl ?_ ?_; (intro ww_; simp only [List.map_toArray, List.map_cons, List.map_nil]; kernel_rfl))
    | ((with_reducible refine gate_d (N := 5) rfl ?_); obtain ⟨gb86, hgb86⟩ : ∃ g_, w111.heap.size = g_ := ⟨_, rfl⟩; refine ag_alloc aT68 gb86 hgb86 rfl rfl ?_; intro w112 hb_ hB_ hs_; have GEb86 : Hid (w.heap.size ≤ gb86) := hid (by have := HL.out.size; omega); have NBb85_b86 : Hid (gb85 ≠ gb86) := hid (by have := BKb85.out.lt; omega); have NBb86_b85 : Hid (gb86 ≠ gb85) := hid (by have := NBb85_b86.out; omega); replace BKb85 := hid (BKb85.out.below hb_ (by rw [← hgb86]; exact BKb85.out.lt)); replace HL := hid (HL.out.trans (hb_.mono GEb86.out)); have BKb86 := hid hB_; clear hb_ hB_ hs_ hgb86)
    | ((with_reducible refine gate_s (t := 68) (p := 5) rfl ?_); refine ag_store aT68 gb86 0 #[.slice none 0 0, .int .i64 0, .int .i64 0, .bool false] #[.slice none 0 0, .int .i64 0, .int .i64 0, .bool true] #[.slice none 0 0, .int .i64 0, .int .i64 0, .bool true] BKb86.out rfl (by simp) (by intro v_ hv_; simp at hv_; rcases hv_ with rfl | rfl | rfl | rfl <;> first | rfl) rfl rfl _ _ rfl rfl rfl ?_; intro w113 ho_ hB_; replace BKb85 := hid (BKb85.out.off ho_ NBb85_b86.out); replace HL := hid (ho_.below HL.out GEb86.out); replace BKb86 := hid hB_; clear ho_ hB_))
  (try simp only [Act.put, List.setIfInBounds_toArray, List.set_cons_zero, List.set_cons_succ])
  go_loopg [6] k (fun kq v6 w' => ∃ (x6_0 : Int) (yb86_0_0 : List Int) (uyb86_0_0 : Value) (yb86_1_0 : Int) (yb86_2_0 : Int), v6 = .int .i64 x6_0 ∧ Hid (i_alfilref04_Says.l0 kq a0 a1 x6_0 yb86_0_0 yb86_1_0 yb86_2_0 = some (r1, r2, r3, r4)) ∧ Hid (kq ≤ k) ∧ Hid (Blk w' gb85 68 #[.slice none 0 0, .int .i64 0, .int .i64 0, .bool false]) ∧ Hid (Blk w' gb86 68 #[uyb86_0_0, .int .i64 yb86_1_0, .int .i64 yb86_2_0, .bool true]) ∧ Hid (Own w' w.heap.size 3 (uyb86_0_0) (yb86_0_0.map (Value.int .i64))) ∧ Hid (Below w.heap.size w w'))
  case atStart => exact ⟨(0 : Int), ([] : List Int), (.slice none 0 0), (0 : Int), (0 : Int), (by first | rfl | (simp; done) | (simp [*]; done)), H', (hid (by first | omega | (omega))), (hid (by exact BKb85.out)), (hid (by exact BKb86.out)), (hid (Own.nil _ _ _)), HL⟩
  case round =>
    clear H'
    clear HL BKb85 BKb86
    obtain ⟨x6_0, yb86_0_0, uyb86_0_0, yb86_1_0, yb86_2_0, rfl, HA, HK114, BKb85, BKb86, SWyb86_0_0, HL⟩ := hrel
    cases gk with
    | zero => exact absurd HA.out (by simp [i_alfilref04_Says.l0])
    | succ k115 =>
      have H := HA.out
      clear HA
      simp only [i_alfilref04_Says.l0] at H
      by_cases c116 : x6_0 < a1
      · rw [if_pos c116] at H
        have c116b0 : decide (x6_0 < a1) = true := decide_eq_true c116
        have hc116 := hid c116
        clear c116
        by_cases c117 : 0 ≤ x6_0
        · rw [if_pos c117] at H
          have c117b0 : decide (0 ≤ x6_0) = true := decide_eq_true c117
          have hc117 := hid c117
          clear c117
          by_cases c118 : x6_0 < (a0.size : Int)
          · rw [if_pos c118] at H
            have c118b0 : decide (x6_0 < (a0.size : Int)) = true := decide_eq_true c118
            have hc118 := hid c118
            clear c118
            by_cases c119 : (bt a0 x6_0.toNat) = 47
            · rw [if_pos c119] at H
              have c119b0 : ((bt a0 x6_0.toNat) == 47) = true := beq_iff_eq.mpr c119
              have c119b1 : ((bt a0 x6_0.toNat) != 47) = false := bne_eq_false_iff_eq.mpr c119
              have hc119 := hid c119
              clear c119
              by_cases c120 : yb86_2_0 = 8
              · rw [if_pos c120] at H
                have c120b0 : (yb86_2_0 == 8) = true := beq_iff_eq.mpr c120
                have c120b1 : (yb86_2_0 != 8) = false := bne_eq_false_iff_eq.mpr c120
                have hc120 := hid c120
                clear c120
                by_cases c121 : yb86_1_0 = 7
                · rw [if_pos c121] at H
                  have c121b0 : (yb86_1_0 == 7) = true := beq_iff_eq.mpr c121
                  have c121b1 : (yb86_1_0 != 7) = false := bne_eq_false_iff_eq.mpr c121
                  have hc121 := hid c121
                  clear c121
                  simp only [Option.some.injEq, Prod.mk.injEq] at H
                  obtain ⟨rfl, rfl, rfl, rfl⟩ := H
                  go_wp2_with (first
                    | ((with_reducible refine gate_d (N := 19) rfl ?_); refine ag_fix (.int .u8 (bt a0 x6_0.toNat)) (ex_ix 9 (.string a0) (.int .i64 x6_0) (.int .u8 (bt a0 x6_0.toNat)) (ix_txt a0 x6_0 hc117.out hc118.out) _ _ rfl rfl rfl) rfl ?_)
                    | ((with_reducible refine gate_d (N := 22) rfl ?_); refine ag_fix (.pointer (some ⟨gb86, 2, none⟩)) (ex_field 68 2 (.pointer (some ⟨gb86, 0, none⟩)) (.pointer (some ⟨gb86, 2, none⟩)) (fa68_2_0 gb86) _ rfl rfl) rfl ?_)
                    | ((with_reducible refine gate_d (N := 23) rfl ?_); refine ag_fix (.int .i64 yb86_2_0) (ex_get sT3 gb86 (2) (.int .i64 yb86_2_0) (#[uyb86_0_0, .int .i64 yb86_1_0, .int .i64 yb86_2_0, .bool true]) BKb86.out rfl _ rfl rfl) rfl ?_)
                    | ((with_reducible refine gate_d (N := 26) rfl ?_); refine ag_fix (.pointer (some ⟨gb86, 1, none⟩)) (ex_field 68 1 (.pointer (some ⟨gb86, 0, none⟩)) (.pointer (some ⟨gb86, 1, none⟩)) (fa68_1_0 gb86) _ rfl rfl) rfl ?_)
                    | ((with_reducible refine gate_d (N := 27) rfl ?_); refine ag_fix (.int .i64 yb86_1_0) (ex_get sT3 gb86 (1) (.int .i64 yb86_1_0) (#[uyb86_0_0, .int .i64 yb86_1_0, .int .i64 yb86_2_0, .bool true]) BKb86.out rfl _ rfl rfl) rfl ?_)
                    | ((with_reducible refine gate_d (N := 30) rfl ?_); refine ag_build (.agg #[.slice none 0 0, .int .i64 0, .int .i64 0, .bool false]) _ rfl rfl ?_ ?_; (intro ww_; simp only [List.map_toArray, List.map_cons, List.map_nil]; kernel_rfl))
                    | ((with_reducible refine gate_s (t := 68) (p := 4) rfl ?_); refine ag_store aT68 gb85 0 #[.slice none 0 0, .int .i64 0, .int .i64 0, .bool false] #[.slice none 0 0, .int .i64 0, .int .i64 0, .bool false] #[.slice none 0 0, .int .i64 0, .int .i64 0, .bool false] BKb85.out rfl (by simp) (by intro v_ hv_; simp at hv_; rcases hv_ with rfl | rfl | rfl | rfl <;> first | rfl) rfl rfl _ _ rfl rfl rfl ?_; intro w122 ho_ hB_; replace BKb86 := hid (BKb86.out.off ho_ NBb86_b85.out); replace SWyb86_0_0 := hid (SWyb86_0_0.out.off ho_ BKb85.out (by decide)); replace HL := hid (ho_.below HL.out GEb85.out); replace BKb85 := hid hB_; clear ho_ hB_))
                  (try simp only [Act.put, List.setIfInBounds_toArray, List.set_cons_zero, List.set_cons_succ])
                  refine bodyPost_ret (v := .agg #[.slice none 0 0, .int .i64 0, .int .i64 0, .bool false]) (res_c aT68 rfl _ gb85 #[.slice none 0 0, .int .i64 0, .int .i64 0, .bool false] BKb85.out rfl rfl) rfl ?_
                  exact ⟨_, rfl, (Own.nil _ _ _), HL.out⟩
                · rw [if_neg c121] at H
                  have c121b0 : (yb86_1_0 == 7) = false := beq_eq_false_iff_ne.mpr c121
                  have c121b1 : (yb86_1_0 != 7) = true := bne_iff_ne.mpr c121
                  have hc121 := hid c121
                  clear c121
                  have H' := hid H
                  clear H
                  go_wp2_with (first
                    | ((with_reducible refine gate_d (N := 19) rfl ?_); refine ag_fix (.int .u8 (bt a0 x6_0.toNat)) (ex_ix 9 (.string a0) (.int .i64 x6_0) (.int .u8 (bt a0 x6_0.toNat)) (ix_txt a0 x6_0 hc117.out hc118.out) _ _ rfl rfl rfl) rfl ?_)
                    | ((with_reducible refine gate_d (N := 22) rfl ?_); refine ag_fix (.pointer (some ⟨gb86, 2, none⟩)) (ex_field 68 2 (.pointer (some ⟨gb86, 0, none⟩)) (.pointer (some ⟨gb86, 2, none⟩)) (fa68_2_0 gb86) _ rfl rfl) rfl ?_)
                    | ((with_reducible refine gate_d (N := 23) rfl ?_); refine ag_fix (.int .i64 yb86_2_0) (ex_get sT3 gb86 (2) (.int .i64 yb86_2_0) (#[uyb86_0_0, .int .i64 yb86_1_0, .int .i64 yb86_2_0, .bool true]) BKb86.out rfl _ rfl rfl) rfl ?_)
                    | ((with_reducible refine gate_d (N := 26) rfl ?_); refine ag_fix (.pointer (some ⟨gb86, 1, none⟩)) (ex_field 68 1 (.pointer (some ⟨gb86, 0, none⟩)) (.pointer (some ⟨gb86, 1, none⟩)) (fa68_1_0 gb86) _ rfl rfl) rfl ?_)
                    | ((with_reducible refine gate_d (N := 27) rfl ?_); refine ag_fix (.int .i64 yb86_1_0) (ex_get sT3 gb86 (1) (.int .i64 yb86_1_0) (#[uyb86_0_0, .int .i64 yb86_1_0, .int .i64 yb86_2_0, .bool true]) BKb86.out rfl _ rfl rfl) rfl ?_)
                    | ((with_reducible refine gate_d (N := 31) rfl ?_); refine ag_fix (.pointer (some ⟨gb86, 1, none⟩)) (ex_field 68 1 (.pointer (some ⟨gb86, 0, none⟩)) (.pointer (some ⟨gb86, 1, none⟩)) (fa68_1_0 gb86) _ rfl rfl) rfl ?_)
                    | ((with_reducible refine gate_d (N := 32) rfl ?_); refine ag_fix (.int .i64 yb86_1_0) (ex_get sT3 gb86 (1) (.int .i64 yb86_1_0) (#[uyb86_0_0, .int .i64 yb86_1_0, .int .i64 yb86_2_0, .bool true]) BKb86.out rfl _ rfl rfl) rfl ?_)
                    | ((with_reducible refine gate_d (N := 34) rfl ?_); refine ag_fix (.pointer (some ⟨gb86, 1, none⟩)) (ex_field 68 1 (.pointer (some ⟨gb86, 0, none⟩)) (.pointer (some ⟨gb86, 1, none⟩)) (fa68_1_0 gb86) _ rfl rfl) rfl ?_)
                    | ((with_reducible refine gate_s (t := 3) (p := 34) rfl ?_); refine ag_set sT3 gb86 (1) (.int .i64 (wrap64 (yb86_1_0 + 1))) #[uyb86_0_0, .int .i64 yb86_1_0, .int .i64 yb86_2_0, .bool true] #[uyb86_0_0, .int .i64 (wrap64 (yb86_1_0 + 1)), .int .i64 yb86_2_0, .bool true] BKb86.out (by simp) rfl rfl rfl rfl _ _ rfl rfl rfl ?_; intro w123 ho_ hB_; replace BKb85 := hid (BKb85.out.off ho_ NBb85_b86.out); replace SWyb86_0_0 := hid (SWyb86_0_0.out.off ho_ BKb86.out (by decide)); replace HL := hid (ho_.below HL.out GEb86.out); replace BKb86 := hid hB_; clear ho_ hB_)
                    | ((with_reducible refine gate_d (N := 35) rfl ?_); refine ag_fix (.pointer (some ⟨gb86, 2, none⟩)) (ex_field 68 2 (.pointer (some ⟨gb86, 0, none⟩)) (.pointer (some ⟨gb86, 2, none⟩)) (fa68_2_0 gb86) _ rfl rfl) rfl ?_)
                    | ((with_reducible refine gate_s (t := 3) (p := 35) rfl ?_); refine ag_set sT3 gb86 (2) (.int .i64 0) #[uyb86_0_0, .int .i64 (wrap64 (yb86_1_0 + 1)), .int .i64 yb86_2_0, .bool true] #[uyb86_0_0, .int .i64 (wrap64 (yb86_1_0 + 1)), .int .i64 0, .bool true] BKb86.out (by simp) rfl rfl rfl rfl _ _ rfl rfl rfl ?_; intro w124 ho_ hB_; replace BKb85 := hid (BKb85.out.off ho_ NBb85_b86.out); replace SWyb86_0_0 := hid (SWyb86_0_0.out.off ho_ BKb86.out (by decide)); replace HL := hid (ho_.below HL.out GEb86.out); replace BKb86 := hid hB_; clear ho_ hB_))
                  (try simp only [Act.put, List.setIfInBounds_toArray, List.set_cons_zero, List.set_cons_succ])
                  go_roundg k115
                  case measure => have := HK114.out; omega
                  case rel => exact ⟨wrap64 (x6_0 + 1), yb86_0_0, (uyb86_0_0), wrap64 (yb86_1_0 + 1), (0 : Int), (by first | rfl | (simp; done) | (simp [*]; done)), H', (hid (by first | omega | (have := HK114.out; omega))), (hid (by exact BKb85.out)), (hid (by exact BKb86.out)), SWyb86_0_0, HL⟩
              · rw [if_neg c120] at H
                have c120b0 : (yb86_2_0 == 8) = false := beq_eq_false_iff_ne.mpr c120
                have c120b1 : (yb86_2_0 != 8) = true := bne_iff_ne.mpr c120
                have hc120 := hid c120
                clear c120
                simp only [Option.some.injEq, Prod.mk.injEq] at H
                obtain ⟨rfl, rfl, rfl, rfl⟩ := H
                go_wp2_with (first
                  | ((with_reducible refine gate_d (N := 19) rfl ?_); refine ag_fix (.int .u8 (bt a0 x6_0.toNat)) (ex_ix 9 (.string a0) (.int .i64 x6_0) (.int .u8 (bt a0 x6_0.toNat)) (ix_txt a0 x6_0 hc117.out hc118.out) _ _ rfl rfl rfl) rfl ?_)
                  | ((with_reducible refine gate_d (N := 22) rfl ?_); refine ag_fix (.pointer (some ⟨gb86, 2, none⟩)) (ex_field 68 2 (.pointer (some ⟨gb86, 0, none⟩)) (.pointer (some ⟨gb86, 2, none⟩)) (fa68_2_0 gb86) _ rfl rfl) rfl ?_)
                  | ((with_reducible refine gate_d (N := 23) rfl ?_); refine ag_fix (.int .i64 yb86_2_0) (ex_get sT3 gb86 (2) (.int .i64 yb86_2_0) (#[uyb86_0_0, .int .i64 yb86_1_0, .int .i64 yb86_2_0, .bool true]) BKb86.out rfl _ rfl rfl) rfl ?_)
                  | ((with_reducible refine gate_d (N := 30) rfl ?_); refine ag_build (.agg #[.slice none 0 0, .int .i64 0, .int .i64 0, .bool false]) _ rfl rfl ?_ ?_; (intro ww_; simp only [List.map_toArray, List.map_cons, List.map_nil]; kernel_rfl))
                  | ((with_reducible refine gate_s (t := 68) (p := 4) rfl ?_); refine ag_store aT68 gb85 0 #[.slice none 0 0, .int .i64 0, .int .i64 0, .bool false] #[.slice none 0 0, .int .i64 0, .int .i64 0, .bool false] #[.slice none 0 0, .int .i64 0, .int .i64 0, .bool false] BKb85.out rfl (by simp) (by intro v_ hv_; simp at hv_; rcases hv_ with rfl | rfl | rfl | rfl <;> first | rfl) rfl rfl _ _ rfl rfl rfl ?_; intro w125 ho_ hB_; replace BKb86 := hid (BKb86.out.off ho_ NBb86_b85.out); replace SWyb86_0_0 := hid (SWyb86_0_0.out.off ho_ BKb85.out (by decide)); replace HL := hid (ho_.below HL.out GEb85.out); replace BKb85 := hid hB_; clear ho_ hB_))
                (try simp only [Act.put, List.setIfInBounds_toArray, List.set_cons_zero, List.set_cons_succ])
                refine bodyPost_ret (v := .agg #[.slice none 0 0, .int .i64 0, .int .i64 0, .bool false]) (res_c aT68 rfl _ gb85 #[.slice none 0 0, .int .i64 0, .int .i64 0, .bool false] BKb85.out rfl rfl) rfl ?_
                exact ⟨_, rfl, (Own.nil _ _ _), HL.out⟩
            · rw [if_neg c119] at H
              have c119b0 : ((bt a0 x6_0.toNat) == 47) = false := beq_eq_false_iff_ne.mpr c119
              have c119b1 : ((bt a0 x6_0.toNat) != 47) = true := bne_iff_ne.mpr c119
              have hc119 := hid c119
              clear c119
              by_cases c126 : (bt a0 x6_0.toNat) ≥ 49
              · rw [if_pos c126] at H
                have c126b0 : decide (49 ≤ (bt a0 x6_0.toNat)) = true := decide_eq_true c126
                have hc126 := hid c126
                clear c126
                by_cases c127 : (bt a0 x6_0.toNat) ≤ 56
                · rw [if_pos c127] at H
                  have c127b0 : decide ((bt a0 x6_0.toNat) ≤ 56) = true := decide_eq_true c127
                  have hc127 := hid c127
                  clear c127
                  by_cases c128 : (wrap64 (yb86_2_0 + (((bt a0 x6_0.toNat) - 48) % 256))) > 8
                  · rw [if_pos c128] at H
                    have c128b0 : decide (8 < (wrap64 (yb86_2_0 + (((bt a0 x6_0.toNat) - 48) % 256)))) = true := decide_eq_true c128
                    have hc128 := hid c128
                    clear c128
                    simp only [Option.some.injEq, Prod.mk.injEq] at H
                    obtain ⟨rfl, rfl, rfl, rfl⟩ := H
                    go_wp2_with (first
                      | ((with_reducible refine gate_d (N := 19) rfl ?_); refine ag_fix (.int .u8 (bt a0 x6_0.toNat)) (ex_ix 9 (.string a0) (.int .i64 x6_0) (.int .u8 (bt a0 x6_0.toNat)) (ix_txt a0 x6_0 hc117.out hc118.out) _ _ rfl rfl rfl) rfl ?_)
                      | ((with_reducible refine gate_d (N := 54) rfl ?_); refine ag_fix (.pointer (some ⟨gb86, 2, none⟩)) (ex_field 68 2 (.pointer (some ⟨gb86, 0, none⟩)) (.pointer (some ⟨gb86, 2, none⟩)) (fa68_2_0 gb86) _ rfl rfl) rfl ?_)
                      | ((with_reducible refine gate_d (N := 55) rfl ?_); refine ag_fix (.int .i64 yb86_2_0) (ex_get sT3 gb86 (2) (.int .i64 yb86_2_0) (#[uyb86_0_0, .int .i64 yb86_1_0, .int .i64 yb86_2_0, .bool true]) BKb86.out rfl _ rfl rfl) rfl ?_)
                      | ((with_reducible refine gate_d (N := 58) rfl ?_); refine ag_fix (.pointer (some ⟨gb86, 2, none⟩)) (ex_field 68 2 (.pointer (some ⟨gb86, 0, none⟩)) (.pointer (some ⟨gb86, 2, none⟩)) (fa68_2_0 gb86) _ rfl rfl) rfl ?_)
                      | ((with_reducible refine gate_s (t := 3) (p := 58) rfl ?_); refine ag_set sT3 gb86 (2) (.int .i64 (wrap64 (yb86_2_0 + (((bt a0 x6_0.toNat) - 48) % 256)))) #[uyb86_0_0, .int .i64 yb86_1_0, .int .i64 yb86_2_0, .bool true] #[uyb86_0_0, .int .i64 yb86_1_0, .int .i64 (wrap64 (yb86_2_0 + (((bt a0 x6_0.toNat) - 48) % 256))), .bool true] BKb86.out (by simp) rfl rfl rfl rfl _ _ rfl rfl rfl ?_; intro w129 ho_ hB_; replace BKb85 := hid (BKb85.out.off ho_ NBb85_b86.out); replace SWyb86_0_0 := hid (SWyb86_0_0.out.off ho_ BKb86.out (by decide)); replace HL := hid (ho_.below HL.out GEb86.out); replace BKb86 := hid hB_; clear ho_ hB_)
                      | ((with_reducible refine gate_d (N := 59) rfl ?_); refine ag_fix (.pointer (some ⟨gb86, 2, none⟩)) (ex_field 68 2 (.pointer (some ⟨gb86, 0, none⟩)) (.pointer (some ⟨gb86, 2, none⟩)) (fa68_2_0 gb86) _ rfl rfl) rfl ?_)
                      | ((with_reducible refine gate_d (N := 60) rfl ?_); refine ag_fix (.int .i64 (wrap64 (yb86_2_0 + (((bt a0 x6_0.toNat) - 48) % 256)))) (ex_get sT3 gb86 (2) (.int .i64 (wrap64 (yb86_2_0 + (((bt a0 x6_0.toNat) - 48) % 256)))) (#[uyb86_0_0, .int .i64 yb86_1_0, .int .i64 (wrap64 (yb86_2_0 + (((bt a0 x6_0.toNat) - 48) % 256))), .bool true]) BKb86.out rfl _ rfl rfl) rfl ?_)
                      | ((with_reducible refine gate_d (N := 62) rfl ?_); refine ag_build (.agg #[.slice none 0 0, .int .i64 0, .int .i64 0, .bool false]) _ rfl rfl ?_ ?_; (intro ww_; simp only [List.map_toArray, List.map_cons, List.map_nil]; kernel_rfl))
                      | ((with_reducible refine gate_s (t := 68) (p := 4) rfl ?_); refine ag_store aT68 gb85 0 #[.slice none 0 0, .int .i64 0, .int .i64 0, .bool false] #[.slice none 0 0, .int .i64 0, .int .i64 0, .bool false] #[.slice none 0 0, .int .i64 0, .int .i64 0, .bool false] BKb85.out rfl (by simp) (by intro v_ hv_; simp at hv_; rcases hv_ with rfl | rfl | rfl | rfl <;> first | rfl) rfl rfl _ _ rfl rfl rfl ?_; intro w130 ho_ hB_; replace BKb86 := hid (BKb86.out.off ho_ NBb86_b85.out); replace SWyb86_0_0 := hid (SWyb86_0_0.out.off ho_ BKb85.out (by decide)); replace HL := hid (ho_.below HL.out GEb85.out); replace BKb85 := hid hB_; clear ho_ hB_))
                    (try simp only [Act.put, List.setIfInBounds_toArray, List.set_cons_zero, List.set_cons_succ])
                    refine bodyPost_ret (v := .agg #[.slice none 0 0, .int .i64 0, .int .i64 0, .bool false]) (res_c aT68 rfl _ gb85 #[.slice none 0 0, .int .i64 0, .int .i64 0, .bool false] BKb85.out rfl rfl) rfl ?_
                    exact ⟨_, rfl, (Own.nil _ _ _), HL.out⟩
                  · rw [if_neg c128] at H
                    have c128b0 : decide (8 < (wrap64 (yb86_2_0 + (((bt a0 x6_0.toNat) - 48) % 256)))) = false := decide_eq_false c128
                    have hc128 := hid c128
                    clear c128
                    have H' := hid H
                    clear H
                    go_wp2_with (first
                      | ((with_reducible refine gate_d (N := 19) rfl ?_); refine ag_fix (.int .u8 (bt a0 x6_0.toNat)) (ex_ix 9 (.string a0) (.int .i64 x6_0) (.int .u8 (bt a0 x6_0.toNat)) (ix_txt a0 x6_0 hc117.out hc118.out) _ _ rfl rfl rfl) rfl ?_)
                      | ((with_reducible refine gate_d (N := 54) rfl ?_); refine ag_fix (.pointer (some ⟨gb86, 2, none⟩)) (ex_field 68 2 (.pointer (some ⟨gb86, 0, none⟩)) (.pointer (some ⟨gb86, 2, none⟩)) (fa68_2_0 gb86) _ rfl rfl) rfl ?_)
                      | ((with_reducible refine gate_d (N := 55) rfl ?_); refine ag_fix (.int .i64 yb86_2_0) (ex_get sT3 gb86 (2) (.int .i64 yb86_2_0) (#[uyb86_0_0, .int .i64 yb86_1_0, .int .i64 yb86_2_0, .bool true]) BKb86.out rfl _ rfl rfl) rfl ?_)
                      | ((with_reducible refine gate_d (N := 58) rfl ?_); refine ag_fix (.pointer (some ⟨gb86, 2, none⟩)) (ex_field 68 2 (.pointer (some ⟨gb86, 0, none⟩)) (.pointer (some ⟨gb86, 2, none⟩)) (fa68_2_0 gb86) _ rfl rfl) rfl ?_)
                      | ((with_reducible refine gate_s (t := 3) (p := 58) rfl ?_); refine ag_set sT3 gb86 (2) (.int .i64 (wrap64 (yb86_2_0 + (((bt a0 x6_0.toNat) - 48) % 256)))) #[uyb86_0_0, .int .i64 yb86_1_0, .int .i64 yb86_2_0, .bool true] #[uyb86_0_0, .int .i64 yb86_1_0, .int .i64 (wrap64 (yb86_2_0 + (((bt a0 x6_0.toNat) - 48) % 256))), .bool true] BKb86.out (by simp) rfl rfl rfl rfl _ _ rfl rfl rfl ?_; intro w131 ho_ hB_; replace BKb85 := hid (BKb85.out.off ho_ NBb85_b86.out); replace SWyb86_0_0 := hid (SWyb86_0_0.out.off ho_ BKb86.out (by decide)); replace HL := hid (ho_.below HL.out GEb86.out); replace BKb86 := hid hB_; clear ho_ hB_)
                      | ((with_reducible refine gate_d (N := 59) rfl ?_); refine ag_fix (.pointer (some ⟨gb86, 2, none⟩)) (ex_field 68 2 (.pointer (some ⟨gb86, 0, none⟩)) (.pointer (some ⟨gb86, 2, none⟩)) (fa68_2_0 gb86) _ rfl rfl) rfl ?_)
                      | ((with_reducible refine gate_d (N := 60) rfl ?_); refine ag_fix (.int .i64 (wrap64 (yb86_2_0 + (((bt a0 x6_0.toNat) - 48) % 256)))) (ex_get sT3 gb86 (2) (.int .i64 (wrap64 (yb86_2_0 + (((bt a0 x6_0.toNat) - 48) % 256)))) (#[uyb86_0_0, .int .i64 yb86_1_0, .int .i64 (wrap64 (yb86_2_0 + (((bt a0 x6_0.toNat) - 48) % 256))), .bool true]) BKb86.out rfl _ rfl rfl) rfl ?_))
                    (try simp only [Act.put, List.setIfInBounds_toArray, List.set_cons_zero, List.set_cons_succ])
                    go_loopg [10] k115 (fun kq v10 w' => ∃ (x10_1 : Int) (yb86_0_1 : List Int) (uyb86_0_1 : Value), v10 = .int .i64 x10_1 ∧ Hid (i_alfilref04_Says.l1 kq a0 a1 x6_0 yb86_1_0 yb86_2_0 x10_1 yb86_0_1 = some (r1, r2, r3, r4)) ∧ Hid (kq ≤ k115) ∧ Hid (Blk w' gb85 68 #[.slice none 0 0, .int .i64 0, .int .i64 0, .bool false]) ∧ Hid (Blk w' gb86 68 #[uyb86_0_1, .int .i64 yb86_1_0, .int .i64 (wrap64 (yb86_2_0 + (((bt a0 x6_0.toNat) - 48) % 256))), .bool true]) ∧ Hid (Own w' w.heap.size 3 (uyb86_0_1) (yb86_0_1.map (Value.int .i64))) ∧ Hid (Below w.heap.size w w'))
                    case atStart => exact ⟨(0 : Int), yb86_0_0, (uyb86_0_0), (by first | rfl | (simp; done) | (simp [*]; done)), H', (hid (by first | omega | (have := HK114.out; omega))), (hid (by exact BKb85.out)), (hid (by exact BKb86.out)), SWyb86_0_0, HL⟩
                    case round =>
                      clear H'
                      clear HL BKb85 BKb86 SWyb86_0_0
                      obtain ⟨x10_1, yb86_0_1, uyb86_0_1, rfl, HA, HK132, BKb85, BKb86, SWyb86_0_1, HL⟩ := hrel
                      cases gk with
                      | zero => exact absurd HA.out (by simp [i_alfilref04_Says.l1])
                      | succ k133 =>
                        have H := HA.out
                        clear HA
                        simp only [i_alfilref04_Says.l1] at H
                        by_cases c134 : x10_1 < (((bt a0 x6_0.toNat) - 48) % 256)
                        · rw [if_pos c134] at H
                          have c134b0 : decide (x10_1 < (((bt a0 x6_0.toNat) - 48) % 256)) = true := decide_eq_true c134
                          have hc134 := hid c134
                          clear c134
                          by_cases c135 : yb86_0_1.length < 17592186044416
                          · rw [if_pos c135] at H
                            have c135b0 : decide (yb86_0_1.length < 17592186044416) = true := decide_eq_true c135
                            have hc135 := hid c135
                            clear c135
                            have H' := hid H
                            clear H
                            have k138 := True.intro
                            go_wp2_with (first
                              | ((with_reducible refine gate_d (N := 68) rfl ?_); refine ag_fix (.pointer (some ⟨gb86, 0, none⟩)) (ex_field 68 0 (.pointer (some ⟨gb86, 0, none⟩)) (.pointer (some ⟨gb86, 0, none⟩)) (fa68_0_0 gb86) _ rfl rfl) rfl ?_)
                              | ((with_reducible refine gate_d (N := 69) rfl ?_); refine ag_fix (uyb86_0_1) (ex_get sT43 gb86 (0) (uyb86_0_1) (#[uyb86_0_1, .int .i64 yb86_1_0, .int .i64 (wrap64 (yb86_2_0 + (((bt a0 x6_0.toNat) - 48) % 256))), .bool true]) BKb86.out rfl _ rfl rfl) rfl ?_)
                              | ((with_reducible refine gate_d (N := 71) rfl ?_); obtain ⟨gb101, hgb101⟩ : ∃ g_, wr.heap.size = g_ := ⟨_, rfl⟩; refine ag_lit sT3 (.int .i64 0) gb101 hgb101 rfl _ rfl rfl (fun w_ => by kernel_rfl) ?_; intro w136 hb_ hB_ hs_; have GEb101 : Hid (w.heap.size ≤ gb101) := hid (by have := HL.out.size; omega); have NBb85_b101 : Hid (gb85 ≠ gb101) := hid (by have := BKb85.out.lt; omega); have NBb101_b85 : Hid (gb101 ≠ gb85) := hid (by have := NBb85_b101.out; omega); replace BKb85 := hid (BKb85.out.below hb_ (by rw [← hgb101]; exact BKb85.out.lt)); have NBb86_b101 : Hid (gb86 ≠ gb101) := hid (by have := BKb86.out.lt; omega); have NBb101_b86 : Hid (gb101 ≠ gb86) := hid (by have := NBb86_b101.out; omega); replace BKb86 := hid (BKb86.out.below hb_ (by rw [← hgb101]; exact BKb86.out.lt)); replace SWyb86_0_1 := hid (SWyb86_0_1.out.below (by rw [hgb101]; exact hb_)); replace HL := hid (HL.out.trans (hb_.mono GEb101.out)); have BKb101 := hid hB_; clear hb_ hB_ hs_ hgb101)
                              | (at_builtin; clear k138; refine app_one eT43 w.heap.size (uyb86_0_1) (yb86_0_1.map (Value.int .i64)) (.int .i64 0) gb101 1 SWyb86_0_1.out BKb101.out rfl (by have h_ := hc135.out; rw [List.length_map]; omega) (by have h_ := hc135.out; rw [List.length_map]; unfold maxLen; omega) HL.out.size rfl _ _ rfl rfl rfl ?_; intro uo102 w137 ho_ hb_ hk_ hi_; clear SWyb86_0_1; have SWo102 : Hid (Own w137 w.heap.size 3 (uo102) ((yb86_0_1 ++ [0]).map (Value.int .i64))) := hid (by rw [List.map_append]; exact ho_); replace BKb85 := hid (hk_ _ _ _ (by decide) BKb85.out); replace BKb86 := hid (hk_ _ _ _ (by decide) BKb86.out); replace HL := hid (HL.out.trans hb_); clear ho_ hb_ hk_ hi_ BKb101)
                              | ((with_reducible refine gate_d (N := 73) rfl ?_); refine ag_fix (.pointer (some ⟨gb86, 0, none⟩)) (ex_field 68 0 (.pointer (some ⟨gb86, 0, none⟩)) (.pointer (some ⟨gb86, 0, none⟩)) (fa68_0_0 gb86) _ rfl rfl) rfl ?_)
                              | ((with_reducible refine gate_s (t := 43) (p := 73) rfl ?_); refine ag_set sT43 gb86 (0) (uo102) #[uyb86_0_1, .int .i64 yb86_1_0, .int .i64 (wrap64 (yb86_2_0 + (((bt a0 x6_0.toNat) - 48) % 256))), .bool true] #[uo102, .int .i64 yb86_1_0, .int .i64 (wrap64 (yb86_2_0 + (((bt a0 x6_0.toNat) - 48) % 256))), .bool true] BKb86.out (by simp) (by obtain ⟨A_, c_, h_⟩ := SWo102.out.sl.shape; rw [h_]; rfl) (by obtain ⟨A_, c_, h_⟩ := SWo102.out.sl.shape; rw [h_]; rfl) rfl rfl _ _ rfl rfl rfl ?_; intro w139 ho_ hB_; replace BKb85 := hid (BKb85.out.off ho_ NBb85_b86.out); replace SWo102 := hid (SWo102.out.off ho_ BKb86.out (by decide)); replace HL := hid (ho_.below HL.out GEb86.out); replace BKb86 := hid hB_; clear ho_ hB_))
                            (try simp only [Act.put, List.setIfInBounds_toArray, List.set_cons_zero, List.set_cons_succ])
                            go_roundg k133
                            case measure => have := HK114.out; have := HK132.out; omega
                            case rel => exact ⟨wrap64 (x10_1 + 1), yb86_0_1 ++ [0], (uo102), (by first | rfl | (simp; done) | (simp [*]; done)), H', (hid (by first | omega | (have := HK114.out; have := HK132.out; omega))), (hid (by exact BKb85.out)), (hid (by exact BKb86.out)), SWo102, HL⟩
                          · rw [if_neg c135] at H
                            exact absurd H (by simp)
                        · rw [if_neg c134] at H
                          have c134b0 : decide (x10_1 < (((bt a0 x6_0.toNat) - 48) % 256)) = false := decide_eq_false c134
                          have hc134 := hid c134
                          clear c134
                          have H' := hid H
                          clear H
                          go_wp2_with fail
                          (try simp only [Act.put, List.setIfInBounds_toArray, List.set_cons_zero, List.set_cons_succ])
                          go_roundg k133
                          case measure => have := HK114.out; have := HK132.out; omega
                          case rel => exact ⟨wrap64 (x6_0 + 1), yb86_0_1, (uyb86_0_1), yb86_1_0, wrap64 (yb86_2_0 + (((bt a0 x6_0.toNat) - 48) % 256)), (by first | rfl | (simp; done) | (simp [*]; done)), H', (hid (by first | omega | (have := HK114.out; have := HK132.out; omega))), (hid (by exact BKb85.out)), (hid (by exact BKb86.out)), SWyb86_0_1, HL⟩
                · rw [if_neg c127] at H
                  have c127b0 : decide ((bt a0 x6_0.toNat) ≤ 56) = false := decide_eq_false c127
                  have hc127 := hid c127
                  clear c127
                  by_cases c140 : x6_0 ≤ (wrap64 (x6_0 + 1))
                  · rw [if_pos c140] at H
                    have c140b0 : decide (x6_0 ≤ (wrap64 (x6_0 + 1))) = true := decide_eq_true c140
                    have hc140 := hid c140
                    clear c140
                    by_cases c141 : (wrap64 (x6_0 + 1)) ≤ (a0.size : Int)
                    · rw [if_pos c141] at H
                      have c141b0 : decide ((wrap64 (x6_0 + 1)) ≤ (a0.size : Int)) = true := decide_eq_true c141
                      have hc141 := hid c141
                      clear c141
                      by_cases c142 : (ofZ (a0.extract (x6_0 : Int).toNat ((wrap64 (x6_0 + 1)) : Int).toNat)) = 0
                      · rw [if_pos c142] at H
                        have c142b0 : ((ofZ (a0.extract (x6_0 : Int).toNat ((wrap64 (x6_0 + 1)) : Int).toNat)) == 0) = true := beq_iff_eq.mpr c142
                        have c142b1 : ((ofZ (a0.extract (x6_0 : Int).toNat ((wrap64 (x6_0 + 1)) : Int).toNat)) != 0) = false := bne_eq_false_iff_eq.mpr c142
                        have hc142 := hid c142
                        clear c142
                        simp only [Option.some.injEq, Prod.mk.injEq] at H
                        obtain ⟨rfl, rfl, rfl, rfl⟩ := H
                        have k143 := True.intro
                        go_wp2_with (first
                          | ((with_reducible refine gate_d (N := 19) rfl ?_); refine ag_fix (.int .u8 (bt a0 x6_0.toNat)) (ex_ix 9 (.string a0) (.int .i64 x6_0) (.int .u8 (bt a0 x6_0.toNat)) (ix_txt a0 x6_0 hc117.out hc118.out) _ _ rfl rfl rfl) rfl ?_)
                          | ((with_reducible refine gate_d (N := 49) rfl ?_); refine ag_fix (.string (a0.extract (x6_0 : Int).toNat ((wrap64 (x6_0 + 1)) : Int).toNat)) (ex_cut_lh 9 und_txt a0 x6_0 (wrap64 (x6_0 + 1)) hc117.out hc140.out hc141.out _ _ _ rfl rfl rfl rfl) rfl ?_)
                          | (go_at_call 75; clear k143; refine (rOf (a0.extract (x6_0 : Int).toNat ((wrap64 (x6_0 + 1)) : Int).toNat) _).mono ?_; rintro e_ w144 ⟨rfl, hb_⟩; replace BKb85 := hid (BKb85.out.below hb_ BKb85.out.lt); replace BKb86 := hid (BKb86.out.below hb_ BKb86.out.lt); replace SWyb86_0_0 := hid (SWyb86_0_0.out.below hb_); replace HL := hid (HL.out.trans (hb_.mono HL.out.size)); clear hb_)
                          | ((with_reducible refine gate_d (N := 53) rfl ?_); refine ag_build (.agg #[.slice none 0 0, .int .i64 0, .int .i64 0, .bool false]) _ rfl rfl ?_ ?_; (intro ww_; simp only [List.map_toArray, List.map_cons, List.map_nil]; kernel_rfl))
                          | ((with_reducible refine gate_s (t := 68) (p := 4) rfl ?_); refine ag_store aT68 gb85 0 #[.slice none 0 0, .int .i64 0, .int .i64 0, .bool false] #[.slice none 0 0, .int .i64 0, .int .i64 0, .bool false] #[.slice none 0 0, .int .i64 0, .int .i64 0, .bool false] BKb85.out rfl (by simp) (by intro v_ hv_; simp at hv_; rcases hv_ with rfl | rfl | rfl | rfl <;> first | rfl) rfl rfl _ _ rfl rfl rfl ?_; intro w145 ho_ hB_; replace BKb86 := hid (BKb86.out.off ho_ NBb86_b85.out); replace SWyb86_0_0 := hid (SWyb86_0_0.out.off ho_ BKb85.out (by decide)); replace HL := hid (ho_.below HL.out GEb85.out); replace BKb85 := hid hB_; clear ho_ hB_))
                        (try simp only [Act.put, List.setIfInBounds_toArray, List.set_cons_zero, List.set_cons_succ])
                        refine bodyPost_ret (v := .agg #[.slice none 0 0, .int .i64 0, .int .i64 0, .bool false]) (res_c aT68 rfl _ gb85 #[.slice none 0 0, .int .i64 0, .int .i64 0, .bool false] BKb85.out rfl rfl) rfl ?_
                        exact ⟨_, rfl, (Own.nil _ _ _), HL.out⟩
                      · rw [if_neg c142] at H
                        have c142b0 : ((ofZ (a0.extract (x6_0 : Int).toNat ((wrap64 (x6_0 + 1)) : Int).toNat)) == 0) = false := beq_eq_false_iff_ne.mpr c142
                        have c142b1 : ((ofZ (a0.extract (x6_0 : Int).toNat ((wrap64 (x6_0 + 1)) : Int).toNat)) != 0) = true := bne_iff_ne.mpr c142
                        have hc142 := hid c142
                        clear c142
                        by_cases c146 : (wrap64 (yb86_2_0 + 1)) > 8
                        · rw [if_pos c146] at H
                          have c146b0 : decide (8 < (wrap64 (yb86_2_0 + 1))) = true := decide_eq_true c146
                          have hc146 := hid c146
                          clear c146
                          simp only [Option.some.injEq, Prod.mk.injEq] at H
                          obtain ⟨rfl, rfl, rfl, rfl⟩ := H
                          have k147 := True.intro
                          go_wp2_with (first
                            | ((with_reducible refine gate_d (N := 19) rfl ?_); refine ag_fix (.int .u8 (bt a0 x6_0.toNat)) (ex_ix 9 (.string a0) (.int .i64 x6_0) (.int .u8 (bt a0 x6_0.toNat)) (ix_txt a0 x6_0 hc117.out hc118.out) _ _ rfl rfl rfl) rfl ?_)
                            | ((with_reducible refine gate_d (N := 49) rfl ?_); refine ag_fix (.string (a0.extract (x6_0 : Int).toNat ((wrap64 (x6_0 + 1)) : Int).toNat)) (ex_cut_lh 9 und_txt a0 x6_0 (wrap64 (x6_0 + 1)) hc117.out hc140.out hc141.out _ _ _ rfl rfl rfl rfl) rfl ?_)
                            | (go_at_call 75; clear k147; refine (rOf (a0.extract (x6_0 : Int).toNat ((wrap64 (x6_0 + 1)) : Int).toNat) _).mono ?_; rintro e_ w148 ⟨rfl, hb_⟩; replace BKb85 := hid (BKb85.out.below hb_ BKb85.out.lt); replace BKb86 := hid (BKb86.out.below hb_ BKb86.out.lt); replace SWyb86_0_0 := hid (SWyb86_0_0.out.below hb_); replace HL := hid (HL.out.trans (hb_.mono HL.out.size)); clear hb_)
                            | ((with_reducible refine gate_d (N := 54) rfl ?_); refine ag_fix (.pointer (some ⟨gb86, 2, none⟩)) (ex_field 68 2 (.pointer (some ⟨gb86, 0, none⟩)) (.pointer (some ⟨gb86, 2, none⟩)) (fa68_2_0 gb86) _ rfl rfl) rfl ?_)
                            | ((with_reducible refine gate_d (N := 55) rfl ?_); refine ag_fix (.int .i64 yb86_2_0) (ex_get sT3 gb86 (2) (.int .i64 yb86_2_0) (#[uyb86_0_0, .int .i64 yb86_1_0, .int .i64 yb86_2_0, .bool true]) BKb86.out rfl _ rfl rfl) rfl ?_)
                            | ((with_reducible refine gate_d (N := 58) rfl ?_); refine ag_fix (.pointer (some ⟨gb86, 2, none⟩)) (ex_field 68 2 (.pointer (some ⟨gb86, 0, none⟩)) (.pointer (some ⟨gb86, 2, none⟩)) (fa68_2_0 gb86) _ rfl rfl) rfl ?_)
                            | ((with_reducible refine gate_s (t := 3) (p := 58) rfl ?_); refine ag_set sT3 gb86 (2) (.int .i64 (wrap64 (yb86_2_0 + 1))) #[uyb86_0_0, .int .i64 yb86_1_0, .int .i64 yb86_2_0, .bool true] #[uyb86_0_0, .int .i64 yb86_1_0, .int .i64 (wrap64 (yb86_2_0 + 1)), .bool true] BKb86.out (by simp) rfl rfl rfl rfl _ _ rfl rfl rfl ?_; intro w149 ho_ hB_; replace BKb85 := hid (BKb85.out.off ho_ NBb85_b86.out); replace SWyb86_0_0 := hid (SWyb86_0_0.out.off ho_ BKb86.out (by decide)); replace HL := hid (ho_.below HL.out GEb86.out); replace BKb86 := hid hB_; clear ho_ hB_)
                            | ((with_reducible refine gate_d (N := 59) rfl ?_); refine ag_fix (.pointer (some ⟨gb86, 2, none⟩)) (ex_field 68 2 (.pointer (some ⟨gb86, 0, none⟩)) (.pointer (some ⟨gb86, 2, none⟩)) (fa68_2_0 gb86) _ rfl rfl) rfl ?_)
                            | ((with_reducible refine gate_d (N := 60) rfl ?_); refine ag_fix (.int .i64 (wrap64 (yb86_2_0 + 1))) (ex_get sT3 gb86 (2) (.int .i64 (wrap64 (yb86_2_0 + 1))) (#[uyb86_0_0, .int .i64 yb86_1_0, .int .i64 (wrap64 (yb86_2_0 + 1)), .bool true]) BKb86.out rfl _ rfl rfl) rfl ?_)
                            | ((with_reducible refine gate_d (N := 62) rfl ?_); refine ag_build (.agg #[.slice none 0 0, .int .i64 0, .int .i64 0, .bool false]) _ rfl rfl ?_ ?_; (intro ww_; simp only [List.map_toArray, List.map_cons, List.map_nil]; kernel_rfl))
                            | ((with_reducible refine gate_s (t := 68) (p := 4) rfl ?_); refine ag_store aT68 gb85 0 #[.slice none 0 0, .int .i64 0, .int .i64 0, .bool false] #[.slice none 0 0, .int .i64 0, .int .i64 0, .bool false] #[.slice none 0 0, .int .i64 0, .int .i64 0, .bool false] BKb85.out rfl (by simp) (by intro v_ hv_; simp at hv_; rcases hv_ with rfl | rfl | rfl | rfl <;> first | rfl) rfl rfl _ _ rfl rfl rfl ?_; intro w150 ho_ hB_; replace BKb86 := hid (BKb86.out.off ho_ NBb86_b85.out); replace SWyb86_0_0 := hid (SWyb86_0_0.out.off ho_ BKb85.out (by decide)); replace HL := hid (ho_.below HL.out GEb85.out); replace BKb85 := hid hB_; clear ho_ hB_))
                          (try simp only [Act.put, List.setIfInBounds_toArray, List.set_cons_zero, List.set_cons_succ])
                          refine bodyPost_ret (v := .agg #[.slice none 0 0, .int .i64 0, .int .i64 0, .bool false]) (res_c aT68 rfl _ gb85 #[.slice none 0 0, .int .i64 0, .int .i64 0, .bool false] BKb85.out rfl rfl) rfl ?_
                          exact ⟨_, rfl, (Own.nil _ _ _), HL.out⟩
                        · rw [if_neg c146] at H
                          have c146b0 : decide (8 < (wrap64 (yb86_2_0 + 1))) = false := decide_eq_false c146
                          have hc146 := hid c146
                          clear c146
                          have H' := hid H
                          clear H
                          have k151 := True.intro
                          go_wp2_with (first
                            | ((with_reducible refine gate_d (N := 19) rfl ?_); refine ag_fix (.int .u8 (bt a0 x6_0.toNat)) (ex_ix 9 (.string a0) (.int .i64 x6_0) (.int .u8 (bt a0 x6_0.toNat)) (ix_txt a0 x6_0 hc117.out hc118.out) _ _ rfl rfl rfl) rfl ?_)
                            | ((with_reducible refine gate_d (N := 49) rfl ?_); refine ag_fix (.string (a0.extract (x6_0 : Int).toNat ((wrap64 (x6_0 + 1)) : Int).toNat)) (ex_cut_lh 9 und_txt a0 x6_0 (wrap64 (x6_0 + 1)) hc117.out hc140.out hc141.out _ _ _ rfl rfl rfl rfl) rfl ?_)
                            | (go_at_call 75; clear k151; refine (rOf (a0.extract (x6_0 : Int).toNat ((wrap64 (x6_0 + 1)) : Int).toNat) _).mono ?_; rintro e_ w152 ⟨rfl, hb_⟩; replace BKb85 := hid (BKb85.out.below hb_ BKb85.out.lt); replace BKb86 := hid (BKb86.out.below hb_ BKb86.out.lt); replace SWyb86_0_0 := hid (SWyb86_0_0.out.below hb_); replace HL := hid (HL.out.trans (hb_.mono HL.out.size)); clear hb_)
                            | ((with_reducible refine gate_d (N := 54) rfl ?_); refine ag_fix (.pointer (some ⟨gb86, 2, none⟩)) (ex_field 68 2 (.pointer (some ⟨gb86, 0, none⟩)) (.pointer (some ⟨gb86, 2, none⟩)) (fa68_2_0 gb86) _ rfl rfl) rfl ?_)
                            | ((with_reducible refine gate_d (N := 55) rfl ?_); refine ag_fix (.int .i64 yb86_2_0) (ex_get sT3 gb86 (2) (.int .i64 yb86_2_0) (#[uyb86_0_0, .int .i64 yb86_1_0, .int .i64 yb86_2_0, .bool true]) BKb86.out rfl _ rfl rfl) rfl ?_)
                            | ((with_reducible refine gate_d (N := 58) rfl ?_); refine ag_fix (.pointer (some ⟨gb86, 2, none⟩)) (ex_field 68 2 (.pointer (some ⟨gb86, 0, none⟩)) (.pointer (some ⟨gb86, 2, none⟩)) (fa68_2_0 gb86) _ rfl rfl) rfl ?_)
                            | ((with_reducible refine gate_s (t := 3) (p := 58) rfl ?_); refine ag_set sT3 gb86 (2) (.int .i64 (wrap64 (yb86_2_0 + 1))) #[uyb86_0_0, .int .i64 yb86_1_0, .int .i64 yb86_2_0, .bool true] #[uyb86_0_0, .int .i64 yb86_1_0, .int .i64 (wrap64 (yb86_2_0 + 1)), .bool true] BKb86.out (by simp) rfl rfl rfl rfl _ _ rfl rfl rfl ?_; intro w153 ho_ hB_; replace BKb85 := hid (BKb85.out.off ho_ NBb85_b86.out); replace SWyb86_0_0 := hid (SWyb86_0_0.out.off ho_ BKb86.out (by decide)); replace HL := hid (ho_.below HL.out GEb86.out); replace BKb86 := hid hB_; clear ho_ hB_)
                            | ((with_reducible refine gate_d (N := 59) rfl ?_); refine ag_fix (.pointer (some ⟨gb86, 2, none⟩)) (ex_field 68 2 (.pointer (some ⟨gb86, 0, none⟩)) (.pointer (some ⟨gb86, 2, none⟩)) (fa68_2_0 gb86) _ rfl rfl) rfl ?_)
                            | ((with_reducible refine gate_d (N := 60) rfl ?_); refine ag_fix (.int .i64 (wrap64 (yb86_2_0 + 1))) (ex_get sT3 gb86 (2) (.int .i64 (wrap64 (yb86_2_0 + 1))) (#[uyb86_0_0, .int .i64 yb86_1_0, .int .i64 (wrap64 (yb86_2_0 + 1)), .bool true]) BKb86.out rfl _ rfl rfl) rfl ?_))
                          (try simp only [Act.put, List.setIfInBounds_toArray, List.set_cons_zero, List.set_cons_succ])
                          go_loopg [10] k115 (fun kq v10 w' => ∃ (x10_2 : Int) (yb86_0_2 : List Int) (uyb86_0_2 : Value), v10 = .int .i64 x10_2 ∧ Hid (i_alfilref04_Says.l2 kq a0 a1 x6_0 yb86_1_0 yb86_2_0 x10_2 yb86_0_2 = some (r1, r2, r3, r4)) ∧ Hid (kq ≤ k115) ∧ Hid (Blk w' gb85 68 #[.slice none 0 0, .int .i64 0, .int .i64 0, .bool false]) ∧ Hid (Blk w' gb86 68 #[uyb86_0_2, .int .i64 yb86_1_0, .int .i64 (wrap64 (yb86_2_0 + 1)), .bool true]) ∧ Hid (Own w' w.heap.size 3 (uyb86_0_2) (yb86_0_2.map (Value.int .i64))) ∧ Hid (Below w.heap.size w w'))
                          case atStart => exact ⟨(0 : Int), yb86_0_0, (uyb86_0_0), (by first | rfl | (simp; done) | (simp [*]; done)), H', (hid (by first | omega | (have := HK114.out; omega))), (hid (by exact BKb85.out)), (hid (by exact BKb86.out)), SWyb86_0_0, HL⟩
                          case round =>
                            clear H'
                            clear HL BKb85 BKb86 SWyb86_0_0
                            obtain ⟨x10_2, yb86_0_2, uyb86_0_2, rfl, HA, HK154, BKb85, BKb86, SWyb86_0_2, HL⟩ := hrel
                            cases gk with
                            | zero => exact absurd HA.out (by simp [i_alfilref04_Says.l2])
                            | succ k155 =>
                              have H := HA.out
                              clear HA
                              simp only [i_alfilref04_Says.l2] at H
                              by_cases c156 : x10_2 < 1
                              · rw [if_pos c156] at H
                                have c156b0 : decide (x10_2 < 1) = true := decide_eq_true c156
                                have hc156 := hid c156
                                clear c156
                                by_cases c157 : yb86_0_2.length < 17592186044416
                                · rw [if_pos c157] at H
                                  have c157b0 : decide (yb86_0_2.length < 17592186044416) = true := decide_eq_true c157
                                  have hc157 := hid c157
                                  clear c157
                                  have H' := hid H
                                  clear H
                                  have k160 := True.intro
                                  go_wp2_with (first
                                    | ((with_reducible refine gate_d (N := 68) rfl ?_); refine ag_fix (.pointer (some ⟨gb86, 0, none⟩)) (ex_field 68 0 (.pointer (some ⟨gb86, 0, none⟩)) (.pointer (some ⟨gb86, 0, none⟩)) (fa68_0_0 gb86) _ rfl rfl) rfl ?_)
                                    | ((with_reducible refine gate_d (N := 69) rfl ?_); refine ag_fix (uyb86_0_2) (ex_get sT43 gb86 (0) (uyb86_0_2) (#[uyb86_0_2, .int .i64 yb86_1_0, .int .i64 (wrap64 (yb86_2_0 + 1)), .bool true]) BKb86.out rfl _ rfl rfl) rfl ?_)
                                    | ((with_reducible refine gate_d (N := 71) rfl ?_); obtain ⟨gb105, hgb105⟩ : ∃ g_, wr.heap.size = g_ := ⟨_, rfl⟩; refine ag_lit sT3 (.int .i64 (ofZ (a0.extract (x6_0 : Int).toNat ((wrap64 (x6_0 + 1)) : Int).toNat))) gb105 hgb105 rfl _ rfl rfl (fun w_ => by kernel_rfl) ?_; intro w158 hb_ hB_ hs_; have GEb105 : Hid (w.heap.size ≤ gb105) := hid (by have := HL.out.size; omega); have NBb85_b105 : Hid (gb85 ≠ gb105) := hid (by have := BKb85.out.lt; omega); have NBb105_b85 : Hid (gb105 ≠ gb85) := hid (by have := NBb85_b105.out; omega); replace BKb85 := hid (BKb85.out.below hb_ (by rw [← hgb105]; exact BKb85.out.lt)); have NBb86_b105 : Hid (gb86 ≠ gb105) := hid (by have := BKb86.out.lt; omega); have NBb105_b86 : Hid (gb105 ≠ gb86) := hid (by have := NBb86_b105.out; omega); replace BKb86 := hid (BKb86.out.below hb_ (by rw [← hgb105]; exact BKb86.out.lt)); replace SWyb86_0_2 := hid (SWyb86_0_2.out.below (by rw [hgb105]; exact hb_)); replace HL := hid (HL.out.trans (hb_.mono GEb105.out)); have BKb105 := hid hB_; clear hb_ hB_ hs_ hgb105)
                                    | (at_builtin; clear k160; refine app_one eT43 w.heap.size (uyb86_0_2) (yb86_0_2.map (Value.int .i64)) (.int .i64 (ofZ (a0.extract (x6_0 : Int).toNat ((wrap64 (x6_0 + 1)) : Int).toNat))) gb105 1 SWyb86_0_2.out BKb105.out rfl (by have h_ := hc157.out; rw [List.length_map]; omega) (by have h_ := hc157.out; rw [List.length_map]; unfold maxLen; omega) HL.out.size rfl _ _ rfl rfl rfl ?_; intro uo106 w159 ho_ hb_ hk_ hi_; clear SWyb86_0_2; have SWo106 : Hid (Own w159 w.heap.size 3 (uo106) ((yb86_0_2 ++ [ofZ (a0.extract (x6_0 : Int).toNat ((wrap64 (x6_0 + 1)) : Int).toNat)]).map (Value.int .i64))) := hid (by rw [List.map_append]; exact ho_); replace BKb85 := hid (hk_ _ _ _ (by decide) BKb85.out); replace BKb86 := hid (hk_ _ _ _ (by decide) BKb86.out); replace HL := hid (HL.out.trans hb_); clear ho_ hb_ hk_ hi_ BKb105)
                                    | ((with_reducible refine gate_d (N := 73) rfl ?_); refine ag_fix (.pointer (some ⟨gb86, 0, none⟩)) (ex_field 68 0 (.pointer (some ⟨gb86, 0, none⟩)) (.pointer (some ⟨gb86, 0, none⟩)) (fa68_0_0 gb86) _ rfl rfl) rfl ?_)
                                    | ((with_reducible refine gate_s (t := 43) (p := 73) rfl ?_); refine ag_set sT43 gb86 (0) (uo106) #[uyb86_0_2, .int .i64 yb86_1_0, .int .i64 (wrap64 (yb86_2_0 + 1)), .bool true] #[uo106, .int .i64 yb86_1_0, .int .i64 (wrap64 (yb86_2_0 + 1)), .bool true] BKb86.out (by simp) (by obtain ⟨A_, c_, h_⟩ := SWo106.out.sl.shape; rw [h_]; rfl) (by obtain ⟨A_, c_, h_⟩ := SWo106.out.sl.shape; rw [h_]; rfl) rfl rfl _ _ rfl rfl rfl ?_; intro w161 ho_ hB_; replace BKb85 := hid (BKb85.out.off ho_ NBb85_b86.out); replace SWo106 := hid (SWo106.out.off ho_ BKb86.out (by decide)); replace HL := hid (ho_.below HL.out GEb86.out); replace BKb86 := hid hB_; clear ho_ hB_))
                                  (try simp only [Act.put, List.setIfInBounds_toArray, List.set_cons_zero, List.set_cons_succ])
                                  go_roundg k155
                                  case measure => have := HK114.out; have := HK154.out; omega
                                  case rel => exact ⟨wrap64 (x10_2 + 1), yb86_0_2 ++ [ofZ (a0.extract (x6_0 : Int).toNat ((wrap64 (x6_0 + 1)) : Int).toNat)], (uo106), (by first | rfl | (simp; done) | (simp [*]; done)), H', (hid (by first | omega | (have := HK114.out; have := HK154.out; omega))), (hid (by exact BKb85.out)), (hid (by exact BKb86.out)), SWo106, HL⟩
                                · rw [if_neg c157] at H
                                  exact absurd H (by simp)
                              · rw [if_neg c156] at H
                                have c156b0 : decide (x10_2 < 1) = false := decide_eq_false c156
                                have hc156 := hid c156
                                clear c156
                                have H' := hid H
                                clear H
                                go_wp2_with fail
                                (try simp only [Act.put, List.setIfInBounds_toArray, List.set_cons_zero, List.set_cons_succ])
                                go_roundg k155
                                case measure => have := HK114.out; have := HK154.out; omega
                                case rel => exact ⟨wrap64 (x6_0 + 1), yb86_0_2, (uyb86_0_2), yb86_1_0, wrap64 (yb86_2_0 + 1), (by first | rfl | (simp; done) | (simp [*]; done)), H', (hid (by first | omega | (have := HK114.out; have := HK154.out; omega))), (hid (by exact BKb85.out)), (hid (by exact BKb86.out)), SWyb86_0_2, HL⟩
                    · rw [if_neg c141] at H
                      exact absurd H (by simp)
                  · rw [if_neg c140] at H
                    exact absurd H (by simp)
              · rw [if_neg c126] at H
                have c126b0 : decide (49 ≤ (bt a0 x6_0.toNat)) = false := decide_eq_false c126
                have hc126 := hid c126
                clear c126
                by_cases c162 : x6_0 ≤ (wrap64 (x6_0 + 1))
                · rw [if_pos c162] at H
                  have c162b0 : decide (x6_0 ≤ (wrap64 (x6_0 + 1))) = true := decide_eq_true c162
                  have hc162 := hid c162
                  clear c162
                  by_cases c163 : (wrap64 (x6_0 + 1)) ≤ (a0.size : Int)
                  · rw [if_pos c163] at H
                    have c163b0 : decide ((wrap64 (x6_0 + 1)) ≤ (a0.size : Int)) = true := decide_eq_true c163
                    have hc163 := hid c163
                    clear c163
                    by_cases c164 : (ofZ (a0.extract (x6_0 : Int).toNat ((wrap64 (x6_0 + 1)) : Int).toNat)) = 0
                    · rw [if_pos c164] at H
                      have c164b0 : ((ofZ (a0.extract (x6_0 : Int).toNat ((wrap64 (x6_0 + 1)) : Int).toNat)) == 0) = true := beq_iff_eq.mpr c164
                      have c164b1 : ((ofZ (a0.extract (x6_0 : Int).toNat ((wrap64 (x6_0 + 1)) : Int).toNat)) != 0) = false := bne_eq_false_iff_eq.mpr c164
                      have hc164 := hid c164
                      clear c164
                      simp only [Option.some.injEq, Prod.mk.injEq] at H
                      obtain ⟨rfl, rfl, rfl, rfl⟩ := H
                      have k165 := True.intro
                      go_wp2_with (first
                        | ((with_reducible refine gate_d (N := 19) rfl ?_); refine ag_fix (.int .u8 (bt a0 x6_0.toNat)) (ex_ix 9 (.string a0) (.int .i64 x6_0) (.int .u8 (bt a0 x6_0.toNat)) (ix_txt a0 x6_0 hc117.out hc118.out) _ _ rfl rfl rfl) rfl ?_)
                        | ((with_reducible refine gate_d (N := 49) rfl ?_); refine ag_fix (.string (a0.extract (x6_0 : Int).toNat ((wrap64 (x6_0 + 1)) : Int).toNat)) (ex_cut_lh 9 und_txt a0 x6_0 (wrap64 (x6_0 + 1)) hc117.out hc162.out hc163.out _ _ _ rfl rfl rfl rfl) rfl ?_)
                        | (go_at_call 75; clear k165; refine (rOf (a0.extract (x6_0 : Int).toNat ((wrap64 (x6_0 + 1)) : Int).toNat) _).mono ?_; rintro e_ w166 ⟨rfl, hb_⟩; replace BKb85 := hid (BKb85.out.below hb_ BKb85.out.lt); replace BKb86 := hid (BKb86.out.below hb_ BKb86.out.lt); replace SWyb86_0_0 := hid (SWyb86_0_0.out.below hb_); replace HL := hid (HL.out.trans (hb_.mono HL.out.size)); clear hb_)
                        | ((with_reducible refine gate_d (N := 53) rfl ?_); refine ag_build (.agg #[.slice none 0 0, .int .i64 0, .int .i64 0, .bool false]) _ rfl rfl ?_ ?_; (intro ww_; simp only [List.map_toArray, List.map_cons, List.map_nil]; kernel_rfl))
                        | ((with_reducible refine gate_s (t := 68) (p := 4) rfl ?_); refine ag_store aT68 gb85 0 #[.slice none 0 0, .int .i64 0, .int .i64 0, .bool false] #[.slice none 0 0, .int .i64 0, .int .i64 0, .bool false] #[.slice none 0 0, .int .i64 0, .int .i64 0, .bool false] BKb85.out rfl (by simp) (by intro v_ hv_; simp at hv_; rcases hv_ with rfl | rfl | rfl | rfl <;> first | rfl) rfl rfl _ _ rfl rfl rfl ?_; intro w167 ho_ hB_; replace BKb86 := hid (BKb86.out.off ho_ NBb86_b85.out); replace SWyb86_0_0 := hid (SWyb86_0_0.out.off ho_ BKb85.out (by decide)); replace HL := hid (ho_.below HL.out GEb85.out); replace BKb85 := hid hB_; clear ho_ hB_))
                      (try simp only [Act.put, List.setIfInBounds_toArray, List.set_cons_zero, List.set_cons_succ])
                      refine bodyPost_ret (v := .agg #[.slice none 0 0, .int .i64 0, .int .i64 0, .bool false]) (res_c aT68 rfl _ gb85 #[.slice none 0 0, .int .i64 0, .int .i64 0, .bool false] BKb85.out rfl rfl) rfl ?_
                      exact ⟨_, rfl, (Own.nil _ _ _), HL.out⟩
                    · rw [if_neg c164] at H
                      have c164b0 : ((ofZ (a0.extract (x6_0 : Int).toNat ((wrap64 (x6_0 + 1)) : Int).toNat)) == 0) = false := beq_eq_false_iff_ne.mpr c164
                      have c164b1 : ((ofZ (a0.extract (x6_0 : Int).toNat ((wrap64 (x6_0 + 1)) : Int).toNat)) != 0) = true := bne_iff_ne.mpr c164
                      have hc164 := hid c164
                      clear c164
                      by_cases c168 : (wrap64 (yb86_2_0 + 1)) > 8
                      · rw [if_pos c168] at H
                        have c168b0 : decide (8 < (wrap64 (yb86_2_0 + 1))) = true := decide_eq_true c168
                        have hc168 := hid c168
                        clear c168
                        simp only [Option.some.injEq, Prod.mk.injEq] at H
                        obtain ⟨rfl, rfl, rfl, rfl⟩ := H
                        have k169 := True.intro
                        go_wp2_with (first
                          | ((with_reducible refine gate_d (N := 19) rfl ?_); refine ag_fix (.int .u8 (bt a0 x6_0.toNat)) (ex_ix 9 (.string a0) (.int .i64 x6_0) (.int .u8 (bt a0 x6_0.toNat)) (ix_txt a0 x6_0 hc117.out hc118.out) _ _ rfl rfl rfl) rfl ?_)
                          | ((with_reducible refine gate_d (N := 49) rfl ?_); refine ag_fix (.string (a0.extract (x6_0 : Int).toNat ((wrap64 (x6_0 + 1)) : Int).toNat)) (ex_cut_lh 9 und_txt a0 x6_0 (wrap64 (x6_0 + 1)) hc117.out hc162.out hc163.out _ _ _ rfl rfl rfl rfl) rfl ?_)
                          | (go_at_call 75; clear k169; refine (rOf (a0.extract (x6_0 : Int).toNat ((wrap64 (x6_0 + 1)) : Int).toNat) _).mono ?_; rintro e_ w170 ⟨rfl, hb_⟩; replace BKb85 := hid (BKb85.out.below hb_ BKb85.out.lt); replace BKb86 := hid (BKb86.out.below hb_ BKb86.out.lt); replace SWyb86_0_0 := hid (SWyb86_0_0.out.below hb_); replace HL := hid (HL.out.trans (hb_.mono HL.out.size)); clear hb_)
                          | ((with_reducible refine gate_d (N := 54) rfl ?_); refine ag_fix (.pointer (some ⟨gb86, 2, none⟩)) (ex_field 68 2 (.pointer (some ⟨gb86, 0, none⟩)) (.pointer (some ⟨gb86, 2, none⟩)) (fa68_2_0 gb86) _ rfl rfl) rfl ?_)
                          | ((with_reducible refine gate_d (N := 55) rfl ?_); refine ag_fix (.int .i64 yb86_2_0) (ex_get sT3 gb86 (2) (.int .i64 yb86_2_0) (#[uyb86_0_0, .int .i64 yb86_1_0, .int .i64 yb86_2_0, .bool true]) BKb86.out rfl _ rfl rfl) rfl ?_)
                          | ((with_reducible refine gate_d (N := 58) rfl ?_); refine ag_fix (.pointer (some ⟨gb86, 2, none⟩)) (ex_field 68 2 (.pointer (some ⟨gb86, 0, none⟩)) (.pointer (some ⟨gb86, 2, none⟩)) (fa68_2_0 gb86) _ rfl rfl) rfl ?_)
                          | ((with_reducible refine gate_s (t := 3) (p := 58) rfl ?_); refine ag_set sT3 gb86 (2) (.int .i64 (wrap64 (yb86_2_0 + 1))) #[uyb86_0_0, .int .i64 yb86_1_0, .int .i64 yb86_2_0, .bool true] #[uyb86_0_0, .int .i64 yb86_1_0, .int .i64 (wrap64 (yb86_2_0 + 1)), .bool true] BKb86.out (by simp) rfl rfl rfl rfl _ _ rfl rfl rfl ?_; intro w171 ho_ hB_; replace BKb85 := hid (BKb85.out.off ho_ NBb85_b86.out); replace SWyb86_0_0 := hid (SWyb86_0_0.out.off ho_ BKb86.out (by decide)); replace HL := hid (ho_.below HL.out GEb86.out); replace BKb86 := hid hB_; clear ho_ hB_)
                          | ((with_reducible refine gate_d (N := 59) rfl ?_); refine ag_fix (.pointer (some ⟨gb86, 2, none⟩)) (ex_field 68 2 (.pointer (some ⟨gb86, 0, none⟩)) (.pointer (some ⟨gb86, 2, none⟩)) (fa68_2_0 gb86) _ rfl rfl) rfl ?_)
                          | ((with_reducible refine gate_d (N := 60) rfl ?_); refine ag_fix (.int .i64 (wrap64 (yb86_2_0 + 1))) (ex_get sT3 gb86 (2) (.int .i64 (wrap64 (yb86_2_0 + 1))) (#[uyb86_0_0, .int .i64 yb86_1_0, .int .i64 (wrap64 (yb86_2_0 + 1)), .bool true]) BKb86.out rfl _ rfl rfl) rfl ?_)
                          | ((with_reducible refine gate_d (N := 62) rfl ?_); refine ag_build (.agg #[.slice none 0 0, .int .i64 0, .int .i64 0, .bool false]) _ rfl rfl ?_ ?_; (intro ww_; simp only [List.map_toArray, List.map_cons, List.map_nil]; kernel_rfl))
                          | ((with_reducible refine gate_s (t := 68) (p := 4) rfl ?_); refine ag_store aT68 gb85 0 #[.slice none 0 0, .int .i64 0, .int .i64 0, .bool false] #[.slice none 0 0, .int .i64 0, .int .i64 0, .bool false] #[.slice none 0 0, .int .i64 0, .int .i64 0, .bool false] BKb85.out rfl (by simp) (by intro v_ hv_; simp at hv_; rcases hv_ with rfl | rfl | rfl | rfl <;> first | rfl) rfl rfl _ _ rfl rfl rfl ?_; intro w172 ho_ hB_; replace BKb86 := hid (BKb86.out.off ho_ NBb86_b85.out); replace SWyb86_0_0 := hid (SWyb86_0_0.out.off ho_ BKb85.out (by decide)); replace HL := hid (ho_.below HL.out GEb85.out); replace BKb85 := hid hB_; clear ho_ hB_))
                        (try simp only [Act.put, List.setIfInBounds_toArray, List.set_cons_zero, List.set_cons_succ])
                        refine bodyPost_ret (v := .agg #[.slice none 0 0, .int .i64 0, .int .i64 0, .bool false]) (res_c aT68 rfl _ gb85 #[.slice none 0 0, .int .i64 0, .int .i64 0, .bool false] BKb85.out rfl rfl) rfl ?_
                        exact ⟨_, rfl, (Own.nil _ _ _), HL.out⟩
                      · rw [if_neg c168] at H
                        have c168b0 : decide (8 < (wrap64 (yb86_2_0 + 1))) = false := decide_eq_false c168
                        have hc168 := hid c168
                        clear c168
                        have H' := hid H
                        clear H
                        have k173 := True.intro
                        go_wp2_with (first
                          | ((with_reducible refine gate_d (N := 19) rfl ?_); refine ag_fix (.int .u8 (bt a0 x6_0.toNat)) (ex_ix 9 (.string a0) (.int .i64 x6_0) (.int .u8 (bt a0 x6_0.toNat)) (ix_txt a0 x6_0 hc117.out hc118.out) _ _ rfl rfl rfl) rfl ?_)
                          | ((with_reducible refine gate_d (N := 49) rfl ?_); refine ag_fix (.string (a0.extract (x6_0 : Int).toNat ((wrap64 (x6_0 + 1)) : Int).toNat)) (ex_cut_lh 9 und_txt a0 x6_0 (wrap64 (x6_0 + 1)) hc117.out hc162.out hc163.out _ _ _ rfl rfl rfl rfl) rfl ?_)
                          | (go_at_call 75; clear k173; refine (rOf (a0.extract (x6_0 : Int).toNat ((wrap64 (x6_0 + 1)) : Int).toNat) _).mono ?_; rintro e_ w174 ⟨rfl, hb_⟩; replace BKb85 := hid (BKb85.out.below hb_ BKb85.out.lt); replace BKb86 := hid (BKb86.out.below hb_ BKb86.out.lt); replace SWyb86_0_0 := hid (SWyb86_0_0.out.below hb_); replace HL := hid (HL.out.trans (hb_.mono HL.out.size)); clear hb_)
                          | ((with_reducible refine gate_d (N := 54) rfl ?_); refine ag_fix (.pointer (some ⟨gb86, 2, none⟩)) (ex_field 68 2 (.pointer (some ⟨gb86, 0, none⟩)) (.pointer (some ⟨gb86, 2, none⟩)) (fa68_2_0 gb86) _ rfl rfl) rfl ?_)
                          | ((with_reducible refine gate_d (N := 55) rfl ?_); refine ag_fix (.int .i64 yb86_2_0) (ex_get sT3 gb86 (2) (.int .i64 yb86_2_0) (#[uyb86_0_0, .int .i64 yb86_1_0, .int .i64 yb86_2_0, .bool true]) BKb86.out rfl _ rfl rfl) rfl ?_)
                          | ((with_reducible refine gate_d (N := 58) rfl ?_); refine ag_fix (.pointer (some ⟨gb86, 2, none⟩)) (ex_field 68 2 (.pointer (some ⟨gb86, 0, none⟩)) (.pointer (some ⟨gb86, 2, none⟩)) (fa68_2_0 gb86) _ rfl rfl) rfl ?_)
                          | ((with_reducible refine gate_s (t := 3) (p := 58) rfl ?_); refine ag_set sT3 gb86 (2) (.int .i64 (wrap64 (yb86_2_0 + 1))) #[uyb86_0_0, .int .i64 yb86_1_0, .int .i64 yb86_2_0, .bool true] #[uyb86_0_0, .int .i64 yb86_1_0, .int .i64 (wrap64 (yb86_2_0 + 1)), .bool true] BKb86.out (by simp) rfl rfl rfl rfl _ _ rfl rfl rfl ?_; intro w175 ho_ hB_; replace BKb85 := hid (BKb85.out.off ho_ NBb85_b86.out); replace SWyb86_0_0 := hid (SWyb86_0_0.out.off ho_ BKb86.out (by decide)); replace HL := hid (ho_.below HL.out GEb86.out); replace BKb86 := hid hB_; clear ho_ hB_)
                          | ((with_reducible refine gate_d (N := 59) rfl ?_); refine ag_fix (.pointer (some ⟨gb86, 2, none⟩)) (ex_field 68 2 (.pointer (some ⟨gb86, 0, none⟩)) (.pointer (some ⟨gb86, 2, none⟩)) (fa68_2_0 gb86) _ rfl rfl) rfl ?_)
                          | ((with_reducible refine gate_d (N := 60) rfl ?_); refine ag_fix (.int .i64 (wrap64 (yb86_2_0 + 1))) (ex_get sT3 gb86 (2) (.int .i64 (wrap64 (yb86_2_0 + 1))) (#[uyb86_0_0, .int .i64 yb86_1_0, .int .i64 (wrap64 (yb86_2_0 + 1)), .bool true]) BKb86.out rfl _ rfl rfl) rfl ?_))
                        (try simp only [Act.put, List.setIfInBounds_toArray, List.set_cons_zero, List.set_cons_succ])
                        go_loopg [10] k115 (fun kq v10 w' => ∃ (x10_3 : Int) (yb86_0_3 : List Int) (uyb86_0_3 : Value), v10 = .int .i64 x10_3 ∧ Hid (i_alfilref04_Says.l3 kq a0 a1 x6_0 yb86_1_0 yb86_2_0 x10_3 yb86_0_3 = some (r1, r2, r3, r4)) ∧ Hid (kq ≤ k115) ∧ Hid (Blk w' gb85 68 #[.slice none 0 0, .int .i64 0, .int .i64 0, .bool false]) ∧ Hid (Blk w' gb86 68 #[uyb86_0_3, .int .i64 yb86_1_0, .int .i64 (wrap64 (yb86_2_0 + 1)), .bool true]) ∧ Hid (Own w' w.heap.size 3 (uyb86_0_3) (yb86_0_3.map (Value.int .i64))) ∧ Hid (Below w.heap.size w w'))
                        case atStart => exact ⟨(0 : Int), yb86_0_0, (uyb86_0_0), (by first | rfl | (simp; done) | (simp [*]; done)), H', (hid (by first | omega | (have := HK114.out; omega))), (hid (by exact BKb85.out)), (hid (by exact BKb86.out)), SWyb86_0_0, HL⟩
                        case round =>
                          clear H'
                          clear HL BKb85 BKb86 SWyb86_0_0
                          obtain ⟨x10_3, yb86_0_3, uyb86_0_3, rfl, HA, HK176, BKb85, BKb86, SWyb86_0_3, HL⟩ := hrel
                          cases gk with
                          | zero => exact absurd HA.out (by simp [i_alfilref04_Says.l3])
                          | succ k177 =>
                            have H := HA.out
                            clear HA
                            simp only [i_alfilref04_Says.l3] at H
                            by_cases c178 : x10_3 < 1
                            · rw [if_pos c178] at H
                              have c178b0 : decide (x10_3 < 1) = true := decide_eq_true c178
                              have hc178 := hid c178
                              clear c178
                              by_cases c179 : yb86_0_3.length < 17592186044416
                              · rw [if_pos c179] at H
                                have c179b0 : decide (yb86_0_3.length < 17592186044416) = true := decide_eq_true c179
                                have hc179 := hid c179
                                clear c179
                                have H' := hid H
                                clear H
                                have k182 := True.intro
                                go_wp2_with (first
                                  | ((with_reducible refine gate_d (N := 68) rfl ?_); refine ag_fix (.pointer (some ⟨gb86, 0, none⟩)) (ex_field 68 0 (.pointer (some ⟨gb86, 0, none⟩)) (.pointer (some ⟨gb86, 0, none⟩)) (fa68_0_0 gb86) _ rfl rfl) rfl ?_)
                                  | ((with_reducible refine gate_d (N := 69) rfl ?_); refine ag_fix (uyb86_0_3) (ex_get sT43 gb86 (0) (uyb86_0_3) (#[uyb86_0_3, .int .i64 yb86_1_0, .int .i64 (wrap64 (yb86_2_0 + 1)), .bool true]) BKb86.out rfl _ rfl rfl) rfl ?_)
                                  | ((with_reducible refine gate_d (N := 71) rfl ?_); obtain ⟨gb109, hgb109⟩ : ∃ g_, wr.heap.size = g_ := ⟨_, rfl⟩; refine ag_lit sT3 (.int .i64 (ofZ (a0.extract (x6_0 : Int).toNat ((wrap64 (x6_0 + 1)) : Int).toNat))) gb109 hgb109 rfl _ rfl rfl (fun w_ => by kernel_rfl) ?_; intro w180 hb_ hB_ hs_; have GEb109 : Hid (w.heap.size ≤ gb109) := hid (by have := HL.out.size; omega); have NBb85_b109 : Hid (gb85 ≠ gb109) := hid (by have := BKb85.out.lt; omega); have NBb109_b85 : Hid (gb109 ≠ gb85) := hid (by have := NBb85_b109.out; omega); replace BKb85 := hid (BKb85.out.below hb_ (by rw [← hgb109]; exact BKb85.out.lt)); have NBb86_b109 : Hid (gb86 ≠ gb109) := hid (by have := BKb86.out.lt; omega); have NBb109_b86 : Hid (gb109 ≠ gb86) := hid (by have := NBb86_b109.out; omega); replace BKb86 := hid (BKb86.out.below hb_ (by rw [← hgb109]; exact BKb86.out.lt)); replace SWyb86_0_3 := hid (SWyb86_0_3.out.below (by rw [hgb109]; exact hb_)); replace HL := hid (HL.out.trans (hb_.mono GEb109.out)); have BKb109 := hid hB_; clear hb_ hB_ hs_ hgb109)
                                  | (at_builtin; clear k182; refine app_one eT43 w.heap.size (uyb86_0_3) (yb86_0_3.map (Value.int .i64)) (.int .i64 (ofZ (a0.extract (x6_0 : Int).toNat ((wrap64 (x6_0 + 1)) : Int).toNat))) gb109 1 SWyb86_0_3.out BKb109.out rfl (by have h_ := hc179.out; rw [List.length_map]; omega) (by have h_ := hc179.out; rw [List.length_map]; unfold maxLen; omega) HL.out.size rfl _ _ rfl rfl rfl ?_; intro uo110 w181 ho_ hb_ hk_ hi_; clear SWyb86_0_3; have SWo110 : Hid (Own w181 w.heap.size 3 (uo110) ((yb86_0_3 ++ [ofZ (a0.extract (x6_0 : Int).toNat ((wrap64 (x6_0 + 1)) : Int).toNat)]).map (Value.int .i64))) := hid (by rw [List.map_append]; exact ho_); replace BKb85 := hid (hk_ _ _ _ (by decide) BKb85.out); replace BKb86 := hid (hk_ _ _ _ (by decide) BKb86.out); replace HL := hid (HL.out.trans hb_); clear ho_ hb_ hk_ hi_ BKb109)
                                  | ((with_reducible refine gate_d (N := 73) rfl ?_); refine ag_fix (.pointer (some ⟨gb86, 0, none⟩)) (ex_field 68 0 (.pointer (some ⟨gb86, 0, none⟩)) (.pointer (some ⟨gb86, 0, none⟩)) (fa68_0_0 gb86) _ rfl rfl) rfl ?_)
                                  | ((with_reducible refine gate_s (t := 43) (p := 73) rfl ?_); refine ag_set sT43 gb86 (0) (uo110) #[uyb86_0_3, .int .i64 yb86_1_0, .int .i64 (wrap64 (yb86_2_0 + 1)), .bool true] #[uo110, .int .i64 yb86_1_0, .int .i64 (wrap64 (yb86_2_0 + 1)), .bool true] BKb86.out (by simp) (by obtain ⟨A_, c_, h_⟩ := SWo110.out.sl.shape; rw [h_]; rfl) (by obtain ⟨A_, c_, h_⟩ := SWo110.out.sl.shape; rw [h_]; rfl) rfl rfl _ _ rfl rfl rfl ?_; intro w183 ho_ hB_; replace BKb85 := hid (BKb85.out.off ho_ NBb85_b86.out); replace SWo110 := hid (SWo110.out.off ho_ BKb86.out (by decide)); replace HL := hid (ho_.below HL.out GEb86.out); replace BKb86 := hid hB_; clear ho_ hB_))
                                (try simp only [Act.put, List.setIfInBounds_toArray, List.set_cons_zero, List.set_cons_succ])
                                go_roundg k177
                                case measure => have := HK114.out; have := HK176.out; omega
                                case rel => exact ⟨wrap64 (x10_3 + 1), yb86_0_3 ++ [ofZ (a0.extract (x6_0 : Int).toNat ((wrap64 (x6_0 + 1)) : Int).toNat)], (uo110), (by first | rfl | (simp; done) | (simp [*]; done)), H', (hid (by first | omega | (have := HK114.out; have := HK176.out; omega))), (hid (by exact BKb85.out)), (hid (by exact BKb86.out)), SWo110, HL⟩
                              · rw [if_neg c179] at H
                                exact absurd H (by simp)
                            · rw [if_neg c178] at H
                              have c178b0 : decide (x10_3 < 1) = false := decide_eq_false c178
                              have hc178 := hid c178
                              clear c178
                              have H' := hid H
                              clear H
                              go_wp2_with fail
                              (try simp only [Act.put, List.setIfInBounds_toArray, List.set_cons_zero, List.set_cons_succ])
                              go_roundg k177
                              case measure => have := HK114.out; have := HK176.out; omega
                              case rel => exact ⟨wrap64 (x6_0 + 1), yb86_0_3, (uyb86_0_3), yb86_1_0, wrap64 (yb86_2_0 + 1), (by first | rfl | (simp; done) | (simp [*]; done)), H', (hid (by first | omega | (have := HK114.out; have := HK176.out; omega))), (hid (by exact BKb85.out)), (hid (by exact BKb86.out)), SWyb86_0_3, HL⟩
                  · rw [if_neg c163] at H
                    exact absurd H (by simp)
                · rw [if_neg c162] at H
                  exact absurd H (by simp)
          · rw [if_neg c118] at H
            exact absurd H (by simp)
        · rw [if_neg c117] at H
          exact absurd H (by simp)
      · rw [if_neg c116] at H
        have c116b0 : decide (x6_0 < a1) = false := decide_eq_false c116
        have hc116 := hid c116
        clear c116
        simp only [Option.some.injEq, Prod.mk.injEq] at H
        obtain ⟨rfl, rfl, rfl, rfl⟩ := H
        go_wp2_with (first
          | ((with_reducible refine gate_d (N := 74) rfl ?_); refine ag_fix (.agg #[uyb86_0_0, .int .i64 yb86_1_0, .int .i64 yb86_2_0, .bool true]) (ex_load aT68 gb86 0 #[uyb86_0_0, .int .i64 yb86_1_0, .int .i64 yb86_2_0, .bool true] #[uyb86_0_0, .int .i64 yb86_1_0, .int .i64 yb86_2_0, .bool true] BKb86.out (by simp) rfl _ rfl rfl) rfl ?_)
          | ((with_reducible refine gate_s (t := 68) (p := 4) rfl ?_); refine ag_store aT68 gb85 0 #[.slice none 0 0, .int .i64 0, .int .i64 0, .bool false] #[uyb86_0_0, .int .i64 yb86_1_0, .int .i64 yb86_2_0, .bool true] #[uyb86_0_0, .int .i64 yb86_1_0, .int .i64 yb86_2_0, .bool true] BKb85.out rfl (by simp) (by intro v_ hv_; simp at hv_; rcases hv_ with rfl | rfl | rfl | rfl <;> first | rfl | exact SWyb86_0_0.out.one) rfl rfl _ _ rfl rfl rfl ?_; intro w184 ho_ hB_; replace BKb86 := hid (BKb86.out.off ho_ NBb86_b85.out); replace SWyb86_0_0 := hid (SWyb86_0_0.out.off ho_ BKb85.out (by decide)); replace HL := hid (ho_.below HL.out GEb85.out); replace BKb85 := hid hB_; clear ho_ hB_))
        (try simp only [Act.put, List.setIfInBounds_toArray, List.set_cons_zero, List.set_cons_succ])
        refine bodyPost_ret (v := .agg #[uyb86_0_0, .int .i64 yb86_1_0, .int .i64 yb86_2_0, .bool true]) (res_c aT68 rfl _ gb85 #[uyb86_0_0, .int .i64 yb86_1_0, .int .i64 yb86_2_0, .bool true] BKb85.out rfl rfl) rfl ?_
        exact ⟨_, rfl, (by exact SWyb86_0_0.out), HL.out⟩
/-! i_alfilref04_Read: function 38 -/
mutual
def i_alfilref04_Read.l0 : Nat → ByteArray → Int → Option ((List Int) × Int × Int)
  | 0, _, _ => none
  | k + 1, a0, x5_0 => if x5_0 < (a0.size : Int) then ((i_alfilref04_Says.f k a0 (wrap64 (x5_0 + 1))).bind fun bt198 => (if bt198.2.2.2 = true then (i_alfilref04_Read.l0 k a0 (wrap64 (x5_0 + 1))) else (some (zL, x5_0, 2)))) else ((i_alfilref04_Says.f k a0 x5_0).bind fun bt202 => (if (bt202.1.length : Int) < 64 then (some (zL, x5_0, 1)) else (i_alfilref04_Read.l1 k x5_0 bt202.1 0 zL)))
def i_alfilref04_Read.l1 : Nat → Int → List Int → Int → List Int → Option ((List Int) × Int × Int)
  | 0, _, _, _, _ => none
  | k + 1, x5_0, t202, x8_1, yb207_0_1 => if x8_1 < 64 then (if 0 ≤ x8_1 then (if x8_1 < (t202.length : Int) then (if 0 ≤ (wrap64 ((wrap64 (8 * (wrap64 (7 - (wrap64 (Int.tdiv x8_1 8)))))) + (Int.tmod x8_1 8))) then (if (wrap64 ((wrap64 (8 * (wrap64 (7 - (wrap64 (Int.tdiv x8_1 8)))))) + (Int.tmod x8_1 8))) < 64 then (i_alfilref04_Read.l1 k x5_0 t202 (wrap64 (x8_1 + 1)) (yb207_0_1.set (wrap64 ((wrap64 (8 * (wrap64 (7 - (wrap64 (Int.tdiv x8_1 8)))))) + (Int.tmod x8_1 8))).toNat (IntKind.i8.wrap (nt t202 x8_1.toNat 0)))) else (none)) else (none)) else (none)) else (none)) else (some (yb207_0_1, x5_0, 0))
end
def i_alfilref04_Read.f (k : Nat) (a0 : ByteArray) : Option ((List Int) × Int × Int) := i_alfilref04_Read.l0 k a0 0
set_option maxHeartbeats 40000000 in
set_option maxRecDepth 100000 in
theorem i_alfilref04_Read.calls (k : Nat) (a0 : ByteArray) (r1 : List Int) (r2 : Int) (r3 : Int) (w : World) (h : i_alfilref04_Read.f k a0 = some (r1, r2, r3)) :
    Calls Try.prog 38 #[.string a0] w fun e w' => e = .returned (.tuple #[.agg (bv r1), .int .i64 r2, .int .i64 r3]) ∧ r1.length = 64 ∧ Below w.heap.size w w' := by
  have HL := hid (Below.refl w.heap.size w)
  have H : (i_alfilref04_Read.l0 k a0 0) = some (r1, r2, r3) := h
  clear h
  have H' := hid H
  clear H
  go_enter Try.func38, Try.ntmps38
  go_wp2_with (first
    | ((with_reducible refine gate_d (N := 2) rfl ?_); obtain ⟨gb185, hgb185⟩ : ∃ g_, w.heap.size = g_ := ⟨_, rfl⟩; refine ag_alloc boardT gb185 hgb185 rfl rfl ?_; intro w210 hb_ hB_ hs_; have GEb185 : Hid (w.heap.size ≤ gb185) := hid (by have := HL.out.size; omega); replace HL := hid (HL.out.trans (hb_.mono GEb185.out)); have BKb185 := hid hB_; clear hb_ hB_ hs_ hgb185))
  (try simp only [Act.put, List.setIfInBounds_toArray, List.set_cons_zero, List.set_cons_succ])
  go_loopg [5] k (fun kq v5 w' => ∃ (x5_0 : Int), v5 = .int .i64 x5_0 ∧ Hid (i_alfilref04_Read.l0 kq a0 x5_0 = some (r1, r2, r3)) ∧ Hid (kq ≤ k) ∧ Hid (Blk w' gb185 24 (bv zL)) ∧ Hid (Below w.heap.size w w'))
  case atStart => exact ⟨(0 : Int), (by first | rfl | (simp; done) | (simp [*]; done)), H', (hid (by first | omega | (omega))), (hid (by exact BKb185.out)), HL⟩
  case round =>
    clear H'
    clear HL BKb185
    obtain ⟨x5_0, rfl, HA, HK211, BKb185, HL⟩ := hrel
    cases gk with
    | zero => exact absurd HA.out (by simp [i_alfilref04_Read.l0])
    | succ k212 =>
      have H := HA.out
      clear HA
      simp only [i_alfilref04_Read.l0] at H
      by_cases c213 : x5_0 < (a0.size : Int)
      · rw [if_pos c213] at H
        have c213b0 : decide (x5_0 < (a0.size : Int)) = true := decide_eq_true c213
        have hc213 := hid c213
        clear c213
        replace H := Option.bind_eq_some_iff.mp H
        obtain ⟨⟨t198, t199, t200, t201⟩, A214_, H⟩ := H
        replace H : (if t201 = true then (i_alfilref04_Read.l0 k212 a0 (wrap64 (x5_0 + 1))) else (some (zL, x5_0, 2))) = some (r1, r2, r3) := H
        have A214 := hid A214_
        clear A214_
        cases t201 with
        | true =>
          rw [if_pos rfl] at H
          have H' := hid H
          clear H
          have k216 := True.intro
          go_wp2_with (first
            | (go_at_call 62; clear k216; refine (i_alfilref04_Says.calls k212 a0 (wrap64 (x5_0 + 1)) t198 t199 t200 true _ A214.out).mono ?_; rintro e_ w217 ⟨ut198, rfl, so_t198, hb_⟩; replace so_t198 := so_t198.mono HL.out.size; have SWn_t198 := hid so_t198; clear so_t198; replace BKb185 := hid (BKb185.out.below hb_ BKb185.out.lt); replace HL := hid (HL.out.trans (hb_.mono HL.out.size)); clear hb_; have SWt198 := SWn_t198; clear SWn_t198)
            | ((with_reducible refine gate_d (N := 18) rfl ?_); refine ag_fix (.bool true) (ex_fld 68 3 (.agg #[ut198, .int .i64 t199, .int .i64 t200, .bool true]) (.bool true) (fv68_3 _ _ _ _) _ rfl rfl) rfl ?_))
          (try simp only [Act.put, List.setIfInBounds_toArray, List.set_cons_zero, List.set_cons_succ])
          go_roundg k212
          case measure => have := HK211.out; omega
          case rel => exact ⟨wrap64 (x5_0 + 1), (by first | rfl | (simp; done) | (simp [*]; done)), H', (hid (by first | omega | (have := HK211.out; omega))), (hid (by exact BKb185.out)), HL⟩
        | false =>
          rw [if_neg (show ¬ (false = true) by decide)] at H
          simp only [Option.some.injEq, Prod.mk.injEq] at H
          obtain ⟨rfl, rfl, rfl⟩ := H
          have k218 := True.intro
          go_wp2_with (first
            | (go_at_call 62; clear k218; refine (i_alfilref04_Says.calls k212 a0 (wrap64 (x5_0 + 1)) t198 t199 t200 false _ A214.out).mono ?_; rintro e_ w219 ⟨ut198, rfl, so_t198, hb_⟩; replace so_t198 := so_t198.mono HL.out.size; have SWn_t198 := hid so_t198; clear so_t198; replace BKb185 := hid (BKb185.out.below hb_ BKb185.out.lt); replace HL := hid (HL.out.trans (hb_.mono HL.out.size)); clear hb_; have SWt198 := SWn_t198; clear SWn_t198)
            | ((with_reducible refine gate_d (N := 18) rfl ?_); refine ag_fix (.bool false) (ex_fld 68 3 (.agg #[ut198, .int .i64 t199, .int .i64 t200, .bool false]) (.bool false) (fv68_3 _ _ _ _) _ rfl rfl) rfl ?_)
            | ((with_reducible refine gate_d (N := 26) rfl ?_); refine ag_build (.agg (bv zL)) _ rfl rfl ?_ ?_; (intro ww_; kernel_rfl))
            | ((with_reducible refine gate_s (t := 24) (p := 2) rfl ?_); refine ag_store boardT gb185 0 (bv zL) (bv zL) (bv zL) BKb185.out (by rw [show (bv zL) = av (Value.int .i8) zL from rfl, av_size]; exact (by first | rfl | (simp only [List.length_set, List.length_replicate, zL_len, List.length_cons, List.length_nil]; done) | (simp [zL_len]; done))) (av_le (by first | rfl | (simp only [List.length_set, List.length_replicate, zL_len, List.length_cons, List.length_nil]; done) | (simp [zL_len]; done))) (av_one (fun _ => rfl)) (av_put (by first | rfl | (simp only [List.length_set, List.length_replicate, zL_len, List.length_cons, List.length_nil]; done) | (simp [zL_len]; done)) (by first | rfl | (simp only [List.length_set, List.length_replicate, zL_len, List.length_cons, List.length_nil]; done) | (simp [zL_len]; done))) rfl _ _ rfl rfl rfl ?_; intro w220 ho_ hB_; replace SWt198 := hid (SWt198.out.off ho_ BKb185.out (by decide)); replace HL := hid (ho_.below HL.out GEb185.out); replace BKb185 := hid hB_; clear ho_ hB_))
          (try simp only [Act.put, List.setIfInBounds_toArray, List.set_cons_zero, List.set_cons_succ])
          refine bodyPost_ret (v := .tuple #[.agg (bv zL), .int .i64 x5_0, .int .i64 2]) (res_ctt boardT rfl _ gb185 (bv zL) (.int .i64 x5_0) (.int .i64 2) BKb185.out (by rw [show (bv zL) = av (Value.int .i8) zL from rfl, av_size]; exact (by first | rfl | (simp only [List.length_set, List.length_replicate, zL_len, List.length_cons, List.length_nil]; done) | (simp [zL_len]; done))) rfl rfl rfl) rfl ?_
          exact ⟨by first | rfl | (simp; done) | (simp [*]; done), (by first | rfl | (simp only [List.length_set, List.length_replicate, zL_len, List.length_cons, List.length_nil]; done) | (simp [zL_len]; done)), HL.out⟩
      · rw [if_neg c213] at H
        have c213b0 : decide (x5_0 < (a0.size : Int)) = false := decide_eq_false c213
        have hc213 := hid c213
        clear c213
        replace H := Option.bind_eq_some_iff.mp H
        obtain ⟨⟨t202, t203, t204, t205⟩, A221_, H⟩ := H
        replace H : (if (t202.length : Int) < 64 then (some (zL, x5_0, 1)) else (i_alfilref04_Read.l1 k212 x5_0 t202 0 zL)) = some (r1, r2, r3) := H
        have A221 := hid A221_
        clear A221_
        by_cases c222 : (t202.length : Int) < 64
        · rw [if_pos c222] at H
          have c222b0 : decide ((t202.length : Int) < 64) = true := decide_eq_true c222
          have c222b1 : decide (t202.length < 64) = true := decide_eq_true (by omega)
          have hc222 := hid c222
          clear c222
          simp only [Option.some.injEq, Prod.mk.injEq] at H
          obtain ⟨rfl, rfl, rfl⟩ := H
          have k223 := True.intro
          go_wp2_with (first
            | (go_at_call 62; clear k223; refine (i_alfilref04_Says.calls k212 a0 x5_0 t202 t203 t204 t205 _ A221.out).mono ?_; rintro e_ w224 ⟨ut202, rfl, so_t202, hb_⟩; replace so_t202 := so_t202.mono HL.out.size; have SWn_t202 := hid so_t202; clear so_t202; replace BKb185 := hid (BKb185.out.below hb_ BKb185.out.lt); replace HL := hid (HL.out.trans (hb_.mono HL.out.size)); clear hb_; have SWt202 := SWn_t202; clear SWn_t202)
            | ((with_reducible refine gate_d (N := 6) rfl ?_); obtain ⟨gb206, hgb206⟩ : ∃ g_, w224.heap.size = g_ := ⟨_, rfl⟩; refine ag_alloc aT68 gb206 hgb206 rfl rfl ?_; intro w225 hb_ hB_ hs_; have GEb206 : Hid (w.heap.size ≤ gb206) := hid (by have := HL.out.size; omega); have NBb185_b206 : Hid (gb185 ≠ gb206) := hid (by have := BKb185.out.lt; omega); have NBb206_b185 : Hid (gb206 ≠ gb185) := hid (by have := NBb185_b206.out; omega); replace BKb185 := hid (BKb185.out.below hb_ (by rw [← hgb206]; exact BKb185.out.lt)); replace SWt202 := hid (SWt202.out.below (by rw [hgb206]; exact hb_)); replace HL := hid (HL.out.trans (hb_.mono GEb206.out)); have BKb206 := hid hB_; clear hb_ hB_ hs_ hgb206)
            | ((with_reducible refine gate_s (t := 68) (p := 6) rfl ?_); refine ag_store aT68 gb206 0 #[.slice none 0 0, .int .i64 0, .int .i64 0, .bool false] #[ut202, .int .i64 t203, .int .i64 t204, .bool t205] #[ut202, .int .i64 t203, .int .i64 t204, .bool t205] BKb206.out rfl (by simp) (by intro v_ hv_; simp at hv_; rcases hv_ with rfl | rfl | rfl | rfl <;> first | rfl | exact SWt202.out.one) rfl rfl _ _ rfl rfl rfl ?_; intro w226 ho_ hB_; replace BKb185 := hid (BKb185.out.off ho_ NBb185_b206.out); replace SWt202 := hid (SWt202.out.off ho_ BKb206.out (by decide)); replace HL := hid (ho_.below HL.out GEb206.out); replace BKb206 := hid hB_; clear ho_ hB_)
            | ((with_reducible refine gate_d (N := 31) rfl ?_); refine ag_fix (.pointer (some ⟨gb206, 0, none⟩)) (ex_field 68 0 (.pointer (some ⟨gb206, 0, none⟩)) (.pointer (some ⟨gb206, 0, none⟩)) (fa68_0_0 gb206) _ rfl rfl) rfl ?_)
            | ((with_reducible refine gate_d (N := 32) rfl ?_); refine ag_fix (ut202) (ex_get sT43 gb206 (0) (ut202) (#[ut202, .int .i64 t203, .int .i64 t204, .bool t205]) BKb206.out rfl _ rfl rfl) rfl ?_)
            | ((with_reducible refine gate_d (N := 33) rfl ?_); obtain ⟨A227, c228, hv229⟩ := SWt202.out.sl.shape; rw [List.length_map] at hv229; refine ag_fix (.int .i64 (t202.length : Int)) (ex_len us43 _ _ _ _ hv229 _ rfl rfl) rfl ?_; clear hv229)
            | ((with_reducible refine gate_d (N := 35) rfl ?_); refine ag_build (.agg (bv zL)) _ rfl rfl ?_ ?_; (intro ww_; kernel_rfl))
            | ((with_reducible refine gate_s (t := 24) (p := 2) rfl ?_); refine ag_store boardT gb185 0 (bv zL) (bv zL) (bv zL) BKb185.out (by rw [show (bv zL) = av (Value.int .i8) zL from rfl, av_size]; exact (by first | rfl | (simp only [List.length_set, List.length_replicate, zL_len, List.length_cons, List.length_nil]; done) | (simp [zL_len]; done))) (av_le (by first | rfl | (simp only [List.length_set, List.length_replicate, zL_len, List.length_cons, List.length_nil]; done) | (simp [zL_len]; done))) (av_one (fun _ => rfl)) (av_put (by first | rfl | (simp only [List.length_set, List.length_replicate, zL_len, List.length_cons, List.length_nil]; done) | (simp [zL_len]; done)) (by first | rfl | (simp only [List.length_set, List.length_replicate, zL_len, List.length_cons, List.length_nil]; done) | (simp [zL_len]; done))) rfl _ _ rfl rfl rfl ?_; intro w230 ho_ hB_; replace BKb206 := hid (BKb206.out.off ho_ NBb206_b185.out); replace SWt202 := hid (SWt202.out.off ho_ BKb185.out (by decide)); replace HL := hid (ho_.below HL.out GEb185.out); replace BKb185 := hid hB_; clear ho_ hB_))
          (try simp only [Act.put, List.setIfInBounds_toArray, List.set_cons_zero, List.set_cons_succ])
          refine bodyPost_ret (v := .tuple #[.agg (bv zL), .int .i64 x5_0, .int .i64 1]) (res_ctt boardT rfl _ gb185 (bv zL) (.int .i64 x5_0) (.int .i64 1) BKb185.out (by rw [show (bv zL) = av (Value.int .i8) zL from rfl, av_size]; exact (by first | rfl | (simp only [List.length_set, List.length_replicate, zL_len, List.length_cons, List.length_nil]; done) | (simp [zL_len]; done))) rfl rfl rfl) rfl ?_
          exact ⟨by first | rfl | (simp; done) | (simp [*]; done), (by first | rfl | (simp only [List.length_set, List.length_replicate, zL_len, List.length_cons, List.length_nil]; done) | (simp [zL_len]; done)), HL.out⟩
        · rw [if_neg c222] at H
          have c222b0 : decide ((t202.length : Int) < 64) = false := decide_eq_false c222
          have c222b1 : decide (t202.length < 64) = false := decide_eq_false (by omega)
          have hc222 := hid c222
          clear c222
          have H' := hid H
          clear H
          have k231 := True.intro
          go_wp2_with (first
            | (go_at_call 62; clear k231; refine (i_alfilref04_Says.calls k212 a0 x5_0 t202 t203 t204 t205 _ A221.out).mono ?_; rintro e_ w232 ⟨ut202, rfl, so_t202, hb_⟩; replace so_t202 := so_t202.mono HL.out.size; have SWn_t202 := hid so_t202; clear so_t202; replace BKb185 := hid (BKb185.out.below hb_ BKb185.out.lt); replace HL := hid (HL.out.trans (hb_.mono HL.out.size)); clear hb_; have SWt202 := SWn_t202; clear SWn_t202)
            | ((with_reducible refine gate_d (N := 6) rfl ?_); obtain ⟨gb206, hgb206⟩ : ∃ g_, w232.heap.size = g_ := ⟨_, rfl⟩; refine ag_alloc aT68 gb206 hgb206 rfl rfl ?_; intro w233 hb_ hB_ hs_; have GEb206 : Hid (w.heap.size ≤ gb206) := hid (by have := HL.out.size; omega); have NBb185_b206 : Hid (gb185 ≠ gb206) := hid (by have := BKb185.out.lt; omega); have NBb206_b185 : Hid (gb206 ≠ gb185) := hid (by have := NBb185_b206.out; omega); replace BKb185 := hid (BKb185.out.below hb_ (by rw [← hgb206]; exact BKb185.out.lt)); replace SWt202 := hid (SWt202.out.below (by rw [hgb206]; exact hb_)); replace HL := hid (HL.out.trans (hb_.mono GEb206.out)); have BKb206 := hid hB_; clear hb_ hB_ hs_ hgb206)
            | ((with_reducible refine gate_s (t := 68) (p := 6) rfl ?_); refine ag_store aT68 gb206 0 #[.slice none 0 0, .int .i64 0, .int .i64 0, .bool false] #[ut202, .int .i64 t203, .int .i64 t204, .bool t205] #[ut202, .int .i64 t203, .int .i64 t204, .bool t205] BKb206.out rfl (by simp) (by intro v_ hv_; simp at hv_; rcases hv_ with rfl | rfl | rfl | rfl <;> first | rfl | exact SWt202.out.one) rfl rfl _ _ rfl rfl rfl ?_; intro w234 ho_ hB_; replace BKb185 := hid (BKb185.out.off ho_ NBb185_b206.out); replace SWt202 := hid (SWt202.out.off ho_ BKb206.out (by decide)); replace HL := hid (ho_.below HL.out GEb206.out); replace BKb206 := hid hB_; clear ho_ hB_)
            | ((with_reducible refine gate_d (N := 31) rfl ?_); refine ag_fix (.pointer (some ⟨gb206, 0, none⟩)) (ex_field 68 0 (.pointer (some ⟨gb206, 0, none⟩)) (.pointer (some ⟨gb206, 0, none⟩)) (fa68_0_0 gb206) _ rfl rfl) rfl ?_)
            | ((with_reducible refine gate_d (N := 32) rfl ?_); refine ag_fix (ut202) (ex_get sT43 gb206 (0) (ut202) (#[ut202, .int .i64 t203, .int .i64 t204, .bool t205]) BKb206.out rfl _ rfl rfl) rfl ?_)
            | ((with_reducible refine gate_d (N := 33) rfl ?_); obtain ⟨A235, c236, hv237⟩ := SWt202.out.sl.shape; rw [List.length_map] at hv237; refine ag_fix (.int .i64 (t202.length : Int)) (ex_len us43 _ _ _ _ hv237 _ rfl rfl) rfl ?_; clear hv237)
            | ((with_reducible refine gate_d (N := 7) rfl ?_); obtain ⟨gb207, hgb207⟩ : ∃ g_, w234.heap.size = g_ := ⟨_, rfl⟩; refine ag_alloc boardT gb207 hgb207 rfl rfl ?_; intro w238 hb_ hB_ hs_; have GEb207 : Hid (w.heap.size ≤ gb207) := hid (by have := HL.out.size; omega); have NBb185_b207 : Hid (gb185 ≠ gb207) := hid (by have := BKb185.out.lt; omega); have NBb207_b185 : Hid (gb207 ≠ gb185) := hid (by have := NBb185_b207.out; omega); replace BKb185 := hid (BKb185.out.below hb_ (by rw [← hgb207]; exact BKb185.out.lt)); have NBb206_b207 : Hid (gb206 ≠ gb207) := hid (by have := BKb206.out.lt; omega); have NBb207_b206 : Hid (gb207 ≠ gb206) := hid (by have := NBb206_b207.out; omega); replace BKb206 := hid (BKb206.out.below hb_ (by rw [← hgb207]; exact BKb206.out.lt)); replace SWt202 := hid (SWt202.out.below (by rw [hgb207]; exact hb_)); replace HL := hid (HL.out.trans (hb_.mono GEb207.out)); have BKb207 := hid hB_; clear hb_ hB_ hs_ hgb207))
          (try simp only [Act.put, List.setIfInBounds_toArray, List.set_cons_zero, List.set_cons_succ])
          go_loopg [8] k212 (fun kq v8 w' => ∃ (x8_1 : Int) (yb207_0_1 : List Int), v8 = .int .i64 x8_1 ∧ Hid (i_alfilref04_Read.l1 kq x5_0 t202 x8_1 yb207_0_1 = some (r1, r2, r3)) ∧ Hid (kq ≤ k212) ∧ Hid (yb207_0_1.length = 64) ∧ Hid (Blk w' gb185 24 (bv zL)) ∧ Hid (Blk w' gb206 68 #[ut202, .int .i64 t203, .int .i64 t204, .bool t205]) ∧ Hid (Blk w' gb207 24 (bv yb207_0_1)) ∧ Hid (Own w' w.heap.size 3 (ut202) (t202.map (Value.int .i64))) ∧ Hid (Below w.heap.size w w'))
          case atStart => exact ⟨(0 : Int), zL, (by first | rfl | (simp; done) | (simp [*]; done)), H', (hid (by first | omega | (have := HK211.out; omega))), (hid (by first | rfl | (simp only [List.length_set, List.length_replicate, zL_len, List.length_cons, List.length_nil]; done) | (simp [zL_len]; done))), (hid (by exact BKb185.out)), (hid (by exact BKb206.out)), (hid (by exact BKb207.out)), SWt202, HL⟩
          case round =>
            clear H'
            clear HL BKb185 BKb206 BKb207 SWt202
            obtain ⟨x8_1, yb207_0_1, rfl, HA, HK239, LN_yb207_0_1, BKb185, BKb206, BKb207, SWt202, HL⟩ := hrel
            cases gk with
            | zero => exact absurd HA.out (by simp [i_alfilref04_Read.l1])
            | succ k240 =>
              have H := HA.out
              clear HA
              simp only [i_alfilref04_Read.l1] at H
              by_cases c241 : x8_1 < 64
              · rw [if_pos c241] at H
                have c241b0 : decide (x8_1 < 64) = true := decide_eq_true c241
                have hc241 := hid c241
                clear c241
                by_cases c242 : 0 ≤ x8_1
                · rw [if_pos c242] at H
                  have c242b0 : decide (0 ≤ x8_1) = true := decide_eq_true c242
                  have hc242 := hid c242
                  clear c242
                  by_cases c243 : x8_1 < (t202.length : Int)
                  · rw [if_pos c243] at H
                    have c243b0 : decide (x8_1 < (t202.length : Int)) = true := decide_eq_true c243
                    have hc243 := hid c243
                    clear c243
                    by_cases c244 : 0 ≤ (wrap64 ((wrap64 (8 * (wrap64 (7 - (wrap64 (Int.tdiv x8_1 8)))))) + (Int.tmod x8_1 8)))
                    · rw [if_pos c244] at H
                      have c244b0 : decide (0 ≤ (wrap64 ((wrap64 (8 * (wrap64 (7 - (wrap64 (Int.tdiv x8_1 8)))))) + (Int.tmod x8_1 8)))) = true := decide_eq_true c244
                      have hc244 := hid c244
                      clear c244
                      by_cases c245 : (wrap64 ((wrap64 (8 * (wrap64 (7 - (wrap64 (Int.tdiv x8_1 8)))))) + (Int.tmod x8_1 8))) < 64
                      · rw [if_pos c245] at H
                        have c245b0 : decide ((wrap64 ((wrap64 (8 * (wrap64 (7 - (wrap64 (Int.tdiv x8_1 8)))))) + (Int.tmod x8_1 8))) < 64) = true := decide_eq_true c245
                        have hc245 := hid c245
                        clear c245
                        have H' := hid H
                        clear H
                        go_wp2_with (first
                          | ((with_reducible refine gate_d (N := 48) rfl ?_); refine ag_fix (.pointer (some ⟨gb206, 0, none⟩)) (ex_field 68 0 (.pointer (some ⟨gb206, 0, none⟩)) (.pointer (some ⟨gb206, 0, none⟩)) (fa68_0_0 gb206) _ rfl rfl) rfl ?_)
                          | ((with_reducible refine gate_d (N := 49) rfl ?_); refine ag_fix (ut202) (ex_get sT43 gb206 (0) (ut202) (#[ut202, .int .i64 t203, .int .i64 t204, .bool t205]) BKb206.out rfl _ rfl rfl) rfl ?_)
                          | ((with_reducible refine gate_d (N := 51) rfl ?_); obtain ⟨ad209, c246, hv247, HCad209_⟩ := Sl.get (l := t202) (f := (Value.int .i64)) SWt202.out.sl 0 (i := x8_1) hc242.out hc243.out; have HCad209 := hid HCad209_; clear HCad209_; refine ag_fix (.pointer (some (ad209.add x8_1.toNat))) (ex_sat _ _ x8_1 _ _ hv247 hc242.out hc243.out us43 sT3 _ _ rfl rfl rfl) rfl ?_; clear hv247)
                          | ((with_reducible refine gate_d (N := 52) rfl ?_); refine ag_fix (.int .i64 (nt t202 x8_1.toNat 0)) (ex_scell sT3 _ _ HCad209.out _ rfl rfl) rfl ?_)
                          | ((with_reducible refine gate_d (N := 54) rfl ?_); refine ag_fix (.pointer (some ⟨gb207, (wrap64 ((wrap64 (8 * (wrap64 (7 - (wrap64 (Int.tdiv x8_1 8)))))) + (Int.tmod x8_1 8))).toNat, none⟩)) (ex_at 24 (.pointer (some ⟨gb207, 0, none⟩)) (.int .i64 (wrap64 ((wrap64 (8 * (wrap64 (7 - (wrap64 (Int.tdiv x8_1 8)))))) + (Int.tmod x8_1 8)))) (.pointer (some ⟨gb207, (wrap64 ((wrap64 (8 * (wrap64 (7 - (wrap64 (Int.tdiv x8_1 8)))))) + (Int.tmod x8_1 8))).toNat, none⟩)) (fun w_ => (run_atv 22 uT24 sT22.size gb207 0 (wrap64 ((wrap64 (8 * (wrap64 (7 - (wrap64 (Int.tdiv x8_1 8)))))) + (Int.tmod x8_1 8))) hc244.out hc245.out w_).trans (by simp)) _ _ rfl rfl rfl) rfl ?_)
                          | ((with_reducible refine gate_s (t := 22) (p := 54) rfl ?_); refine ag_set sT22 gb207 ((wrap64 ((wrap64 (8 * (wrap64 (7 - (wrap64 (Int.tdiv x8_1 8)))))) + (Int.tmod x8_1 8))).toNat) (.int .i8 (IntKind.i8.wrap (nt t202 x8_1.toNat 0))) (bv yb207_0_1) (bv (yb207_0_1.set (wrap64 ((wrap64 (8 * (wrap64 (7 - (wrap64 (Int.tdiv x8_1 8)))))) + (Int.tmod x8_1 8))).toNat (IntKind.i8.wrap (nt t202 x8_1.toNat 0)))) BKb207.out (by rw [show (bv yb207_0_1) = av (Value.int .i8) yb207_0_1 from rfl, av_size]; exact (by have h_ : yb207_0_1.length = 64 := (by first | rfl | (simp only [List.length_set, List.length_replicate, zL_len, List.length_cons, List.length_nil, LN_yb207_0_1.out]; done) | (simp [zL_len, LN_yb207_0_1.out]; done)); have h1_ := hc244.out; have h2_ := hc245.out; omega)) rfl rfl (av_set _ _) rfl _ _ rfl rfl rfl ?_; intro w248 ho_ hB_; replace BKb185 := hid (BKb185.out.off ho_ NBb185_b207.out); replace BKb206 := hid (BKb206.out.off ho_ NBb206_b207.out); replace SWt202 := hid (SWt202.out.off ho_ BKb207.out (by decide)); replace HL := hid (ho_.below HL.out GEb207.out); replace BKb207 := hid hB_; clear ho_ hB_))
                        (try simp only [Act.put, List.setIfInBounds_toArray, List.set_cons_zero, List.set_cons_succ])
                        go_roundg k240
                        case measure => have := HK211.out; have := HK239.out; omega
                        case rel => exact ⟨wrap64 (x8_1 + 1), yb207_0_1.set (wrap64 ((wrap64 (8 * (wrap64 (7 - (wrap64 (Int.tdiv x8_1 8)))))) + (Int.tmod x8_1 8))).toNat (IntKind.i8.wrap (nt t202 x8_1.toNat 0)), (by first | rfl | (simp; done) | (simp [*]; done)), H', (hid (by first | omega | (have := HK211.out; have := HK239.out; omega))), (hid (by first | rfl | (simp only [List.length_set, List.length_replicate, zL_len, List.length_cons, List.length_nil, LN_yb207_0_1.out]; done) | (simp [zL_len, LN_yb207_0_1.out]; done))), (hid (by exact BKb185.out)), (hid (by exact BKb206.out)), (hid (by exact BKb207.out)), SWt202, HL⟩
                      · rw [if_neg c245] at H
                        exact absurd H (by simp)
                    · rw [if_neg c244] at H
                      exact absurd H (by simp)
                  · rw [if_neg c243] at H
                    exact absurd H (by simp)
                · rw [if_neg c242] at H
                  exact absurd H (by simp)
              · rw [if_neg c241] at H
                have c241b0 : decide (x8_1 < 64) = false := decide_eq_false c241
                have hc241 := hid c241
                clear c241
                simp only [Option.some.injEq, Prod.mk.injEq] at H
                obtain ⟨rfl, rfl, rfl⟩ := H
                go_wp2_with (first
                  | ((with_reducible refine gate_d (N := 55) rfl ?_); refine ag_fix (.agg (bv yb207_0_1)) (ex_load boardT gb207 0 (bv yb207_0_1) (bv yb207_0_1) BKb207.out (av_le (by first | rfl | (simp only [List.length_set, List.length_replicate, zL_len, List.length_cons, List.length_nil, LN_yb207_0_1.out]; done) | (simp [zL_len, LN_yb207_0_1.out]; done))) (av_ex (by first | rfl | (simp only [List.length_set, List.length_replicate, zL_len, List.length_cons, List.length_nil, LN_yb207_0_1.out]; done) | (simp [zL_len, LN_yb207_0_1.out]; done))) _ rfl rfl) rfl ?_)
                  | ((with_reducible refine gate_s (t := 24) (p := 2) rfl ?_); refine ag_store boardT gb185 0 (bv zL) (bv yb207_0_1) (bv yb207_0_1) BKb185.out (by rw [show (bv yb207_0_1) = av (Value.int .i8) yb207_0_1 from rfl, av_size]; exact (by first | rfl | (simp only [List.length_set, List.length_replicate, zL_len, List.length_cons, List.length_nil, LN_yb207_0_1.out]; done) | (simp [zL_len, LN_yb207_0_1.out]; done))) (av_le (by first | rfl | (simp only [List.length_set, List.length_replicate, zL_len, List.length_cons, List.length_nil, LN_yb207_0_1.out]; done) | (simp [zL_len, LN_yb207_0_1.out]; done))) (av_one (fun _ => rfl)) (av_put (by first | rfl | (simp only [List.length_set, List.length_replicate, zL_len, List.length_cons, List.length_nil, LN_yb207_0_1.out]; done) | (simp [zL_len, LN_yb207_0_1.out]; done)) (by first | rfl | (simp only [List.length_set, List.length_replicate, zL_len, List.length_cons, List.length_nil, LN_yb207_0_1.out]; done) | (simp [zL_len, LN_yb207_0_1.out]; done))) rfl _ _ rfl rfl rfl ?_; intro w249 ho_ hB_; replace BKb206 := hid (BKb206.out.off ho_ NBb206_b185.out); replace BKb207 := hid (BKb207.out.off ho_ NBb207_b185.out); replace SWt202 := hid (SWt202.out.off ho_ BKb185.out (by decide)); replace HL := hid (ho_.below HL.out GEb185.out); replace BKb185 := hid hB_; clear ho_ hB_))
                (try simp only [Act.put, List.setIfInBounds_toArray, List.set_cons_zero, List.set_cons_succ])
                refine bodyPost_ret (v := .tuple #[.agg (bv yb207_0_1), .int .i64 x5_0, .int .i64 0]) (res_ctt boardT rfl _ gb185 (bv yb207_0_1) (.int .i64 x5_0) (.int .i64 0) BKb185.out (by rw [show (bv yb207_0_1) = av (Value.int .i8) yb207_0_1 from rfl, av_size]; exact (by first | rfl | (simp only [List.length_set, List.length_replicate, zL_len, List.length_cons, List.length_nil, LN_yb207_0_1.out]; done) | (simp [zL_len, LN_yb207_0_1.out]; done))) rfl rfl rfl) rfl ?_
                exact ⟨by first | rfl | (simp; done) | (simp [*]; done), (by first | rfl | (simp only [List.length_set, List.length_replicate, zL_len, List.length_cons, List.length_nil, LN_yb207_0_1.out]; done) | (simp [zL_len, LN_yb207_0_1.out]; done)), HL.out⟩
end Go.Proofs.Ytpgdcpkggmkooaa
